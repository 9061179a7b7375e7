/- Contracts of runs of machines on networks, of the program and of the reference; the walks of FnExactRunsOn and FnExactStartStates. -/
import Derived.Test.YtebjcbgencenbaaStd
import Derived.Test.YtebjcbgencenbaaPortMap
import Derived.Test.YtebjcbgencenbaaClauseFor
import Derived.Test.YtebjcbgencenbaaMark
import Derived.Test.YtebjcbgencenbaaMarkI
import Derived.Test.YtebjcbgencenbaaBfs
import Derived.Test.YtebjcbgencenbaaDraw
namespace Go.Proofs.Ytebjcbgencenbaa
open Go Go.RowKit

/-- m runs on A. -/
def OnM (m : Mach) (A : Net) : Prop := (∀ j (_h : j < A.ends.length), (A.ends[j].length : Int) ≤ m.deg) ∧ ∀ j (_h : j < A.inputs.length), A.inputs[j] < ((m.start.headD []).length : Int)
def Fits (m : Mach) (A : Net) : Prop := MOk m ∧ NOk A ∧ OnM m A
def degs (A : Net) : List Int := A.ends.map fun r => (r.length : Int)
theorem degs_len (A : Net) : (degs A).length = A.ends.length := by simp [degs]
theorem onM_iff {m : Mach} {A : Net} (hA : NOk A) : (allR (degs A) 0 m.deg = true ∧ allR A.inputs 0 (((m.start.headD []).length : Int) - 1) = true) ↔ OnM m A := by
  rw [allR_true, allR_true]
  constructor
  · rintro ⟨h1, h2⟩
    exact ⟨fun j hj => (h1 _ (List.mem_map_of_mem (List.getElem_mem hj))).2, fun j hj => by have := h2 _ (List.getElem_mem hj); omega⟩
  · rintro ⟨h1, h2⟩
    refine ⟨fun x hx => ?_, fun x hx => ?_⟩
    · obtain ⟨r, hr, rfl⟩ := List.mem_map.1 hx
      obtain ⟨j, hj, rfl⟩ := List.mem_iff_getElem.1 hr
      exact ⟨by omega, h1 j hj⟩
    · obtain ⟨j, hj, rfl⟩ := List.mem_iff_getElem.1 hx
      have := allR_true.1 hA.inputs _ hx
      have := h2 j hj
      omega
theorem headD_at {xs : List (List Int)} (h : 0 < xs.length) : xs.headD [] = xs[0] := by
  cases xs with
  | nil => simp at h
  | cons x r => rfl

set_option maxRecDepth 100000 in
theorem runsOn_spec {lom him : Nat} (nm : MA) (m : Mach) {loA hiA : Nat} (nA : NA) (A : Net) (w : World) (hm : IsMach lom him w nm m) (hhim : him ≤ w.heap.size) (hnm : totM m ≤ 1048576) (hA : IsNet loA hiA w nA A) (hhiA : hiA ≤ w.heap.size) (hnA : totN A ≤ 1048576) (hkm : MOk m) (hkA : NOk A) :
    Fn Try.prog 57 #[machV nm m, netV nA A] w (fun v w' => ∃ b, v = VB b ∧ (b = true ↔ OnM m A) ∧ Ext w w') := by
  have hmm : totL m.start + totL m.send + totC m.clauses + m.output.length ≤ 1048576 := hnm
  have hqA := totL_len A.ends
  have hmA : totL A.ends + A.ids.length + A.inputs.length ≤ 1048576 := hnA
  have hsl := hkm.startLen
  have hdg := hkm.deg
  have h0s : 0 < m.start.length := by omega
  have hhd := headD_at h0s
  have hin := hkA.inLen
  have hnd := hkA.nodes
  have hE := Ext.refl w
  refine Fn_of Try.func57 rfl rfl (by kernel_rfl) rfl ?_
  refine W_seq ?_
  refine W_region ?_
  refine WL_m rfl (ev_box rfl) ?_
  rintro _ w2 ⟨rfl, hN2⟩
  have hz2 := hN2.size
  replace hE := hE.trans hN2.ext
  replace hm := hm.ext hN2.ext
  replace hA := hA.ext hN2.ext
  have hB2 : Blk w2 _ _ [_, _, _, _, _, _, _] := hN2.blk
  refine WL_m rfl (ev_box rfl) ?_
  rintro _ w3 ⟨rfl, hN3⟩
  have hz3 := hN3.size
  replace hE := hE.trans hN3.ext
  replace hm := hm.ext hN3.ext
  replace hA := hA.ext hN3.ext
  replace hB2 := hB2.ext hN3.ext
  have hB3 : Blk w3 _ _ [_, _, _] := hN3.blk
  refine WL_q rfl (ev_assign rfl) ?_
  refine WL_nil ?_
  refine thenE_n ?_
  refine W_seq ?_
  refine W_seq ?_
  refine W_region ?_
  refine WL_q rfl (ev_fieldAddr fo40_0 rfl) ?_
  refine WL_q rfl (ev_load one38 rfl (hB3.cell rfl)) ?_
  refine WL_q rfl (ev_len Try.underlying38 rfl) ?_
  refine WL_q rfl (ev_move rfl) ?_
  refine WL_nil ?_
  refine thenE_n ?_
  refine W_block ?_
  refine W_loopC (G := Nat) [(2, _), (3, _), (8, _), (9, _)] ((Subs.c rfl (Subs.c rfl (Subs.c rfl (Subs.c rfl Subs.n))))) (fun i => [(10, VI (i : Int))]) (fun i w' => Ext w3 w' ∧ i ≤ A.ends.length ∧ ∀ j (_h : j < i) (h2 : j < A.ends.length), (A.ends[j].length : Int) ≤ m.deg ∧ A.inputs.getD j 0 < (m.start[0].length : Int)) (fun i => A.ends.length - i) 0 ((Subs.c (lkI rfl (by omega)) Subs.n)) (⟨Ext.refl _, ⟨by omega, fun j h => by omega⟩⟩) ?_
  rintro i wL0 ⟨hRL0, hi', hJ⟩
  have hzL0 := hRL0.size
  replace hE := hE.trans hRL0
  replace hm := hm.ext hRL0
  replace hA := hA.ext hRL0
  replace hB2 := hB2.ext hRL0
  replace hB3 := hB3.ext hRL0
  refine W_seq ?_
  refine W_region ?_
  refine WL_q rfl (ev_lss rfl rfl) ?_
  refine WL_nil ?_
  refine thenE_n ?_
  refine W_seq ?_
  refine W_cond rfl (fun hg11 => ?_) (fun hg11 => ?_)
  · have hp11 := of_decide_eq_true hg11
    refine W_skip ?_
    refine thenE_n ?_
    refine W_seq ?_
    refine W_block ?_
    refine W_seq ?_
    refine W_region ?_
    refine WL_q rfl (ev_move rfl) ?_
    have hlt : i < A.ends.length := by omega
    have hl13 : i < A.ends.length := by omega
    have ht13 := totL_le hl13
    obtain ⟨a13, c13, hc13, hr13⟩ := hA.ends.row hl13
    refine WL_q rfl (ev_indexAddr Try.underlying38 sz103 rfl rfl (hA.ends.isSome (by omega)) (by omega) (by omega)) ?_
    refine WL_q rfl (ev_load one103 rfl (hc13)) ?_
    refine WL_q rfl (ev_assign rfl) ?_
    refine WL_q rfl (ev_assign rfl) ?_
    refine WL_nil ?_
    refine thenE_n ?_
    refine W_seq ?_
    refine W_drawE [(0, true), (1, true), (2, true), (3, true), (4, true), (5, true), (6, true), (7, true), (8, true), (9, true), (10, true), (11, true), (12, true), (13, true), (14, true), (15, true), (16, true), (17, true)] mixed (by kernel_rfl) rfl (by kernel_rfl) ?_
    intro wd4 hEd4 hzd4
    replace hE := hE.trans hEd4
    replace hRL0 := hRL0.trans hEd4
    replace hm := hm.ext hEd4
    replace hA := hA.ext hEd4
    replace hB2 := hB2.ext hEd4
    replace hB3 := hB3.ext hEd4
    replace hr13 := hr13.ext hEd4
    have hDd4 := Ext.refl wd4
    refine PW_q rfl rfl (fun wq hq => ev_move rfl) ?_
    refine PW_q rfl rfl (fun wq hq => ev_len Try.underlying103 rfl) ?_
    refine PW_q rfl rfl (fun wq hq => ev_fieldAddr fo36_0 rfl) ?_
    refine PW_q rfl rfl (fun wq hq => ev_load one3 rfl (hq.cell (hB2.cell rfl))) ?_
    refine PW_q rfl rfl (fun wq hq => ev_gtr rfl rfl) ?_
    refine PW_q rfl rfl (fun wq hq => ev_move rfl) ?_
    refine PW_splitv (t := 20) rfl (fun hg19 => ?_) (fun hg19 => ?_)
    · have hp19 := of_decide_eq_true hg19
      refine PW_no rfl rfl rfl hg19 rfl ?_
      refine PW_no rfl rfl rfl hg19 rfl ?_
      refine PW_no rfl rfl rfl hg19 rfl ?_
      refine PW_no rfl rfl rfl hg19 rfl ?_
      refine PW_no rfl rfl rfl hg19 rfl ?_
      refine PW_no rfl rfl rfl hg19 rfl ?_
      refine PW_no rfl rfl rfl hg19 rfl ?_
      refine PW_no rfl rfl rfl hg19 rfl ?_
      refine PW_no rfl rfl rfl hg19 rfl ?_
      refine PW_no rfl rfl rfl hg19 rfl ?_
      refine PW_no rfl rfl rfl hg19 rfl ?_
      refine PW_q rfl rfl (fun wq hq => ev_pick_t rfl hg19 rfl) ?_
      refine PW_nil ?_
      refine thenE_n ?_
      refine W_cond_t rfl ?_
      refine W_seq ?_
      refine W_region ?_
      refine WL_q rfl (ev_assign rfl) ?_
      refine WL_nil ?_
      refine thenE_n ?_
      refine W_ret ?_
      refine blockE_r ?_
      refine thenE_r ?_
      refine thenE_r ?_
      refine blockE_r ?_
      refine thenE_r ?_
      refine ret1 rfl rfl ?_
      first | (refine ⟨_, rfl, ffI fun hk => ?_, hE⟩; have := hk.1 i hlt; omega) | (refine ⟨_, rfl, ffI fun hk => ?_, hE⟩; have h9 := hk.2 i (by omega); rw [hhd] at h9; omega) | (refine ⟨_, rfl, ttI ⟨fun j hj => (hJ j (by omega) hj).1, fun j hj => ?_⟩, hE⟩; have h9 := (hJ j (by omega) (by omega)).2; rw [getD_eq hj] at h9; rw [hhd]; exact h9)
    · have hp19 := of_decide_eq_false hg19
      refine PW_qg rfl rfl rfl hg19 rfl (fun wq hq => ev_fieldAddr fo40_2 rfl) ?_
      refine PW_qg rfl rfl rfl hg19 rfl (fun wq hq => ev_load one24 rfl (hq.cell (hB3.cell rfl))) ?_
      refine PW_qg rfl rfl rfl hg19 rfl (fun wq hq => ev_move rfl) ?_
      refine PW_qg rfl rfl rfl hg19 rfl (fun wq hq => ev_indexAddr Try.underlying24 sz3 rfl rfl (hA.inputs.isSome (by omega)) (by omega) (by omega)) ?_
      have hc25 := hA.inputs.cell (i := i) (by omega)
      refine PW_qg rfl rfl rfl hg19 rfl (fun wq hq => ev_load one3 rfl (hq.cell (hc25))) ?_
      refine PW_qg rfl rfl rfl hg19 rfl (fun wq hq => ev_fieldAddr fo36_3 rfl) ?_
      refine PW_qg rfl rfl rfl hg19 rfl (fun wq hq => ev_load one22 rfl (hq.cell (hB2.cell rfl))) ?_
      have hl28 : 0 < m.start.length := by omega
      have ht28 := totL_le hl28
      obtain ⟨a28, c28, hc28, hr28⟩ := hm.start.row hl28
      refine PW_qg rfl rfl rfl hg19 rfl (fun wq hq => ev_indexAddr Try.underlying22 sz24 rfl rfl (hm.start.isSome (by omega)) (by omega) (by omega)) ?_
      refine PW_qg rfl rfl rfl hg19 rfl (fun wq hq => ev_load one24 rfl (hq.cell (hc28))) ?_
      refine PW_qg rfl rfl rfl hg19 rfl (fun wq hq => ev_len Try.underlying24 rfl) ?_
      refine PW_qg rfl rfl rfl hg19 rfl (fun wq hq => ev_geq rfl rfl) ?_
      refine PW_q rfl rfl (fun wq hq => ev_pick_f rfl hg19 rfl) ?_
      refine PW_nil ?_
      refine thenE_n ?_
      refine W_cond rfl (fun hg31 => ?_) (fun hg31 => ?_)
      · have hp31 := of_decide_eq_true hg31
        refine W_seq ?_
        refine W_region ?_
        refine WL_q rfl (ev_assign rfl) ?_
        refine WL_nil ?_
        refine thenE_n ?_
        refine W_ret ?_
        refine blockE_r ?_
        refine thenE_r ?_
        refine thenE_r ?_
        refine blockE_r ?_
        refine thenE_r ?_
        refine ret1 rfl rfl ?_
        first | (refine ⟨_, rfl, ffI fun hk => ?_, hE⟩; have := hk.1 i hlt; omega) | (refine ⟨_, rfl, ffI fun hk => ?_, hE⟩; have h9 := hk.2 i (by omega); rw [hhd] at h9; omega) | (refine ⟨_, rfl, ttI ⟨fun j hj => (hJ j (by omega) hj).1, fun j hj => ?_⟩, hE⟩; have h9 := (hJ j (by omega) (by omega)).2; rw [getD_eq hj] at h9; rw [hhd]; exact h9)
      · have hp31 := of_decide_eq_false hg31
        refine W_skip ?_
        refine blockE_n ?_
        refine thenE_n ?_
        refine W_region ?_
        refine WL_q rfl (ev_add rfl rfl (by omega)) ?_
        refine WL_q rfl (ev_move rfl) ?_
        refine WL_nil ?_
        refine thenE_n ?_
        exact ⟨i + 1, (Subs.c rfl (Subs.c rfl (Subs.c rfl (Subs.c rfl Subs.n)))), (Subs.c (lkI rfl (by omega)) Subs.n), ⟨hRL0, ⟨by omega, dsucc (P := fun j h2 => (A.ends[j].length : Int) ≤ m.deg ∧ A.inputs.getD j 0 < (m.start[0].length : Int)) hJ hlt ⟨by omega, by rw [getD_eq (by omega)]; omega⟩⟩⟩, by first | omega | (dsimp only; omega)⟩
  · have hp11 := of_decide_eq_false hg11
    refine W_exit ?_
    refine thenE_x ?_
    refine thenE_x ?_
    refine blockE_hit ?_
    refine thenE_n ?_
    refine W_seq ?_
    refine W_region ?_
    refine WL_q rfl (ev_assign rfl) ?_
    refine WL_nil ?_
    refine thenE_n ?_
    refine W_ret ?_
    refine ret1 rfl rfl ?_
    first | (refine ⟨_, rfl, ffI fun hk => ?_, hE⟩; have := hk.1 i hlt; omega) | (refine ⟨_, rfl, ffI fun hk => ?_, hE⟩; have h9 := hk.2 i (by omega); rw [hhd] at h9; omega) | (refine ⟨_, rfl, ttI ⟨fun j hj => (hJ j (by omega) hj).1, fun j hj => ?_⟩, hE⟩; have h9 := (hJ j (by omega) (by omega)).2; rw [getD_eq hj] at h9; rw [hhd]; exact h9)

set_option maxRecDepth 100000 in
theorem neDegrees_spec {loA hiA : Nat} (nA : NA) (A : Net) (w : World) (hA : IsNet loA hiA w nA A) (hhiA : hiA ≤ w.heap.size) (hnA : totN A ≤ 1048576) :
    Fn Try.prog 88 #[netV nA A] w (fun r w' => ∃ a' c', r = .slice a' (degs A).length c' ∧ Own w.heap.size w' 3 1 a' (degs A).length c' ((degs A).map VI) ∧ Ext w w') := by
  have hqA := totL_len A.ends
  have hmA : totL A.ends + A.ids.length + A.inputs.length ≤ 1048576 := hnA
  have hdl := degs_len A
  have hE := Ext.refl w
  refine Fn_of Try.func88 rfl rfl (by kernel_rfl) rfl ?_
  refine W_seq ?_
  refine W_region ?_
  refine WL_m rfl (ev_box rfl) ?_
  rintro _ w1 ⟨rfl, hN1⟩
  have hz1 := hN1.size
  replace hE := hE.trans hN1.ext
  replace hA := hA.ext hN1.ext
  have hB1 : Blk w1 _ _ [_, _, _] := hN1.blk
  refine WL_q rfl (ev_assign rfl) ?_
  refine WL_nil ?_
  refine thenE_n ?_
  refine W_seq ?_
  refine W_region ?_
  refine WL_q rfl (ev_assign rfl) ?_
  refine WL_nil ?_
  refine thenE_n ?_
  refine W_seq ?_
  refine W_seq ?_
  refine W_region ?_
  refine WL_q rfl (ev_fieldAddr fo40_0 rfl) ?_
  refine WL_q rfl (ev_load one38 rfl (hB1.cell rfl)) ?_
  refine WL_q rfl (ev_len Try.underlying38 rfl) ?_
  refine WL_q rfl (ev_move rfl) ?_
  refine WL_nil ?_
  refine thenE_n ?_
  refine W_block ?_
  refine W_loopC (G := Nat × Option Addr × Nat) [(7, _), (8, _)] ((Subs.c rfl (Subs.c rfl Subs.n))) (fun ⟨i, a, c⟩ => [(3, .slice a i c), (9, VI (i : Int))]) (fun ⟨i, a, c⟩ w' => Ext w1 w' ∧ i ≤ A.ends.length ∧ OwnH w1.heap.size w'.heap.size 0 0 w' 3 1 a i c (((degs A).take i).map VI)) (fun g => A.ends.length - g.1) (0, none, 0) ((Subs.c rfl (Subs.c (lkI rfl (by omega)) Subs.n))) (⟨Ext.refl _, ⟨by omega, OwnH.nil⟩⟩) ?_
  rintro ⟨i, a, c⟩ wL0 ⟨hRL0, hi', hO⟩
  have hzL0 := hRL0.size
  replace hE := hE.trans hRL0
  replace hA := hA.ext hRL0
  replace hB1 := hB1.ext hRL0
  refine W_seq ?_
  refine W_region ?_
  refine WL_q rfl (ev_lss rfl rfl) ?_
  refine WL_nil ?_
  refine thenE_n ?_
  refine W_seq ?_
  refine W_cond rfl (fun hg10 => ?_) (fun hg10 => ?_)
  · have hp10 := of_decide_eq_true hg10
    refine W_skip ?_
    refine thenE_n ?_
    refine W_seq ?_
    refine W_block ?_
    refine W_seq ?_
    refine W_region ?_
    have hl11 : i < A.ends.length := by omega
    have ht11 := totL_le hl11
    obtain ⟨a11, c11, hc11, hr11⟩ := hA.ends.row hl11
    refine WL_q rfl (ev_indexAddr Try.underlying38 sz103 rfl rfl (hA.ends.isSome (by omega)) (by omega) (by omega)) ?_
    refine WL_q rfl (ev_load one103 rfl (hc11)) ?_
    refine WL_q rfl (ev_assign rfl) ?_
    refine WL_nil ?_
    refine thenE_n ?_
    refine W_region ?_
    refine WL_q rfl (ev_move rfl) ?_
    refine WL_q rfl (ev_move rfl) ?_
    refine WL_q rfl (ev_len Try.underlying103 rfl) ?_
    refine WL_m rfl (ev_lit1 Try.underlying24 el3 (by decide) (by decide) rfl rfl) ?_
    rintro _ w16 ⟨rfl, hN16⟩
    have hz16 := hN16.size
    replace hE := hE.trans hN16.ext
    replace hRL0 := hRL0.trans hN16.ext
    replace hA := hA.ext hN16.ext
    replace hB1 := hB1.ext hN16.ext
    replace hO := hO.ext hN16.ext
    replace hr11 := hr11.ext hN16.ext
    have hB16 := hN16.blk
    refine WL_m rfl (ev_appendT Try.underlying24 el3 rfl (by decide) rfl rfl hO (SAt.of_blk (cs := [_]) (ds := []) hB16) rfl (by simp [Value.oneCell']) (by omega) (by unfold maxLen; omega) (by omega)) ?_
    rintro _ w17 ⟨a17, c17, rfl, hO17, hK17, hQ17⟩
    have hz17 := hK17.size
    replace hE := hE.rg hK17 (by omega)
    replace hRL0 := hRL0.rg hK17 (by omega)
    replace hA := hA.rg hK17 (by omega)
    replace hB1 := hB1.rg hK17 (by omega)
    replace hr11 := hr11.rg hK17 (by omega)
    replace hB16 := hB16.rg hK17 (by omega)
    replace hO := hO17
    replace hO := ownt_snocI hO
    refine WL_q rfl (ev_assign rfl) ?_
    refine WL_nil ?_
    refine blockE_n ?_
    refine thenE_n ?_
    refine W_region ?_
    refine WL_q rfl (ev_add rfl rfl (by omega)) ?_
    refine WL_q rfl (ev_move rfl) ?_
    refine WL_nil ?_
    refine thenE_n ?_
    exact ⟨(i + 1, a17, c17), (Subs.c rfl (Subs.c rfl Subs.n)), (Subs.c rfl (Subs.c (lkI rfl (by omega)) Subs.n)), ⟨hRL0, ⟨by omega, (ownt_take hO (by omega) (by simp [degs])).up (Nat.le_refl _) (by omega)⟩⟩, by first | omega | (dsimp only; omega)⟩
  · have hp10 := of_decide_eq_false hg10
    refine W_exit ?_
    refine thenE_x ?_
    refine thenE_x ?_
    refine blockE_hit ?_
    refine thenE_n ?_
    refine W_seq ?_
    refine W_region ?_
    refine WL_q rfl (ev_move rfl) ?_
    refine WL_q rfl (ev_assign rfl) ?_
    refine WL_nil ?_
    refine thenE_n ?_
    refine W_ret ?_
    refine ret1 rfl rfl ?_
    have hi9 : i = (degs A).length := by omega
    subst hi9
    exact ⟨_, _, rfl, by rw [List.take_length] at hO; exact hO.1.mono (by omega), hE⟩

set_option maxRecDepth 100000 in
theorem maOn_spec {lom him : Nat} (nm : MA) (m : Mach) {loA hiA : Nat} (nA : NA) (A : Net) (w : World) (hm : IsMach lom him w nm m) (hhim : him ≤ w.heap.size) (hnm : totM m ≤ 1048576) (hA : IsNet loA hiA w nA A) (hhiA : hiA ≤ w.heap.size) (hnA : totN A ≤ 1048576) (hkm : MOk m) (hkA : NOk A) :
    Fn Try.prog 52 #[machV nm m, netV nA A] w (fun v w' => ∃ b, v = VB b ∧ (b = true ↔ OnM m A) ∧ Ext w w') := by
  have hmm : totL m.start + totL m.send + totC m.clauses + m.output.length ≤ 1048576 := hnm
  have hqA := totL_len A.ends
  have hmA : totL A.ends + A.ids.length + A.inputs.length ≤ 1048576 := hnA
  have hsl := hkm.startLen
  have hdg := hkm.deg
  have h0s : 0 < m.start.length := by omega
  have hhd := headD_at h0s
  have hin := hkA.inLen
  have hnd := hkA.nodes
  have hdl := degs_len A
  have hE := Ext.refl w
  refine Fn_of Try.func52 rfl rfl (by kernel_rfl) rfl ?_
  refine W_seq ?_
  refine W_region ?_
  refine WL_m rfl (ev_box rfl) ?_
  rintro _ w2 ⟨rfl, hN2⟩
  have hz2 := hN2.size
  replace hE := hE.trans hN2.ext
  replace hm := hm.ext hN2.ext
  replace hA := hA.ext hN2.ext
  have hB2 : Blk w2 _ _ [_, _, _, _, _, _, _] := hN2.blk
  refine WL_m rfl (ev_box rfl) ?_
  rintro _ w3 ⟨rfl, hN3⟩
  have hz3 := hN3.size
  replace hE := hE.trans hN3.ext
  replace hm := hm.ext hN3.ext
  replace hA := hA.ext hN3.ext
  replace hB2 := hB2.ext hN3.ext
  have hB3 : Blk w3 _ _ [_, _, _] := hN3.blk
  refine WL_q rfl (ev_assign rfl) ?_
  refine WL_nil ?_
  refine thenE_n ?_
  refine W_seq ?_
  refine W_drawE [(0, true), (2, true), (3, true), (1, false), (4, false), (5, true), (6, true), (7, true), (8, true), (9, true), (10, true), (11, true), (12, true), (13, true), (14, false), (15, true), (16, true)] mixed (by kernel_rfl) rfl (by kernel_rfl) ?_
  intro wd1 hEd1 hzd1
  replace hE := hE.trans hEd1
  replace hm := hm.ext hEd1
  replace hA := hA.ext hEd1
  replace hB2 := hB2.ext hEd1
  replace hB3 := hB3.ext hEd1
  have hDd1 := Ext.refl wd1
  refine PW_q rfl rfl (fun wq hq => ev_loads st40 sz40 rfl (cellsB (hq.blk hB3)) rfl) ?_
  refine PW_q rfl rfl (fun wq hq => ev_fieldAddr fo36_0 rfl) ?_
  refine PW_q rfl rfl (fun wq hq => ev_load one3 rfl (hq.cell (hB2.cell rfl))) ?_
  refine PW_m rfl rfl (ev_call rfl (neDegrees_spec _ A _ hA (by omega) (by omega))) ?_
  rintro _ w6 ⟨a6, c6, rfl, hO6, hE6⟩
  have hz6 := hE6.size
  replace hE := hE.trans hE6
  replace hDd1 := hDd1.trans hE6
  refine ⟨hDd1, ?_⟩
  have hm_4 := hm.ext hDd1
  have hA_4 := hA.ext hDd1
  have hB2_4 := hB2.ext hDd1
  have hB3_4 := hB3.ext hDd1
  refine PW_m rfl rfl (ev_call rfl (l1All_spec _ _ (degs A) _ _ _ (own_i hO6) (by omega))) ?_
  rintro _ w9 ⟨rfl, hE9⟩
  have hz9 := hE9.size
  replace hE := hE.trans hE9
  replace hDd1 := hDd1.trans hE9
  replace hO6 := hO6.ext hE9
  refine ⟨hDd1, ?_⟩
  refine PW_q rfl rfl (fun wq hq => ev_move rfl) ?_
  refine PW_splitv (t := 10) rfl (fun hg9 => ?_) (fun hg9 => ?_)
  · refine PW_qg rfl rfl rfl hg9 rfl (fun wq hq => ev_fieldAddr fo40_2 rfl) ?_
    refine PW_qg rfl rfl rfl hg9 rfl (fun wq hq => ev_load one24 rfl (hq.cell (hB3.cell rfl))) ?_
    refine PW_qg rfl rfl rfl hg9 rfl (fun wq hq => ev_fieldAddr fo36_3 rfl) ?_
    refine PW_qg rfl rfl rfl hg9 rfl (fun wq hq => ev_load one22 rfl (hq.cell (hB2.cell rfl))) ?_
    have hl15 : 0 < m.start.length := by omega
    have ht15 := totL_le hl15
    obtain ⟨a15, c15, hc15, hr15⟩ := hm.start.row hl15
    refine PW_qg rfl rfl rfl hg9 rfl (fun wq hq => ev_indexAddr Try.underlying22 sz24 rfl rfl (hm.start.isSome (by omega)) (by omega) (by omega)) ?_
    refine PW_qg rfl rfl rfl hg9 rfl (fun wq hq => ev_load one24 rfl (hq.cell (hc15))) ?_
    refine PW_qg rfl rfl rfl hg9 rfl (fun wq hq => ev_len Try.underlying24 rfl) ?_
    refine PW_qg rfl rfl rfl hg9 rfl (fun wq hq => ev_sub rfl rfl (by omega)) ?_
    have hm_14 := hm.ext hDd1
    have hA_14 := hA.ext hDd1
    have hB2_14 := hB2.ext hDd1
    have hB3_14 := hB3.ext hDd1
    have hr15_14 := hr15.ext hDd1
    refine PW_mg rfl rfl rfl hg9 rfl (ev_call rfl (l1All_spec _ _ A.inputs _ _ _ hA_14.inputs (by omega))) ?_
    rintro _ w19 ⟨rfl, hE19⟩
    have hz19 := hE19.size
    replace hE := hE.trans hE19
    replace hDd1 := hDd1.trans hE19
    replace hO6 := hO6.ext hE19
    refine ⟨hDd1, ?_⟩
    refine PW_q rfl rfl (fun wq hq => ev_pick_t rfl hg9 rfl) ?_
    refine PW_q rfl rfl (fun wq hq => ev_assign rfl) ?_
    replace hm := hm.ext hDd1
    replace hA := hA.ext hDd1
    replace hB2 := hB2.ext hDd1
    replace hB3 := hB3.ext hDd1
    replace hr15 := hr15.ext hDd1
    refine PW_nil ?_
    refine thenE_n ?_
    refine W_ret ?_
    refine ret1 rfl rfl ?_
    first | (refine ⟨_, rfl, ?_, hE⟩; rw [← onM_iff hkA, hhd]; exact ⟨fun h => ⟨hg9, h⟩, fun h => h.2⟩) | (exact ⟨_, rfl, ffI (fun h => (by have h9 := ((onM_iff hkA).2 h).1; rw [hg9] at h9; cases h9)), hE⟩)
  · refine PW_no rfl rfl rfl hg9 rfl ?_
    refine PW_no rfl rfl rfl hg9 rfl ?_
    refine PW_no rfl rfl rfl hg9 rfl ?_
    refine PW_no rfl rfl rfl hg9 rfl ?_
    refine PW_no rfl rfl rfl hg9 rfl ?_
    refine PW_no rfl rfl rfl hg9 rfl ?_
    refine PW_no rfl rfl rfl hg9 rfl ?_
    refine PW_no rfl rfl rfl hg9 rfl ?_
    refine PW_no rfl rfl rfl hg9 rfl ?_
    refine PW_q rfl rfl (fun wq hq => ev_pick_f rfl hg9 rfl) ?_
    refine PW_q rfl rfl (fun wq hq => ev_assign rfl) ?_
    replace hm := hm.ext hDd1
    replace hA := hA.ext hDd1
    replace hB2 := hB2.ext hDd1
    replace hB3 := hB3.ext hDd1
    refine PW_nil ?_
    refine thenE_n ?_
    refine W_ret ?_
    refine ret1 rfl rfl ?_
    first | (refine ⟨_, rfl, ?_, hE⟩; rw [← onM_iff hkA, hhd]; exact ⟨fun h => ⟨hg9, h⟩, fun h => h.2⟩) | (exact ⟨_, rfl, ffI (fun h => (by have h9 := ((onM_iff hkA).2 h).1; rw [hg9] at h9; cases h9)), hE⟩)

set_option maxRecDepth 100000 in
theorem maAsked_spec {lom him : Nat} (nm : MA) (m : Mach) {loA hiA : Nat} (nA : NA) (A : Net) (w : World) (hm : IsMach lom him w nm m) (hhim : him ≤ w.heap.size) (hnm : totM m ≤ 1048576) (hA : IsNet loA hiA w nA A) (hhiA : hiA ≤ w.heap.size) (hnA : totN A ≤ 1048576) :
    Fn Try.prog 60 #[machV nm m, netV nA A] w (fun v w' => ∃ b, v = VB b ∧ (b = true ↔ Fits m A) ∧ Ext w w') := by
  have hmm : totL m.start + totL m.send + totC m.clauses + m.output.length ≤ 1048576 := hnm
  have hqA := totL_len A.ends
  have hmA : totL A.ends + A.ids.length + A.inputs.length ≤ 1048576 := hnA
  have hE := Ext.refl w
  refine Fn_of Try.func60 rfl rfl (by kernel_rfl) rfl ?_
  refine W_seq ?_
  refine W_region ?_
  refine WL_m rfl (ev_box rfl) ?_
  rintro _ w2 ⟨rfl, hN2⟩
  have hz2 := hN2.size
  replace hE := hE.trans hN2.ext
  replace hm := hm.ext hN2.ext
  replace hA := hA.ext hN2.ext
  have hB2 : Blk w2 _ _ [_, _, _, _, _, _, _] := hN2.blk
  refine WL_m rfl (ev_box rfl) ?_
  rintro _ w3 ⟨rfl, hN3⟩
  have hz3 := hN3.size
  replace hE := hE.trans hN3.ext
  replace hm := hm.ext hN3.ext
  replace hA := hA.ext hN3.ext
  replace hB2 := hB2.ext hN3.ext
  have hB3 : Blk w3 _ _ [_, _, _] := hN3.blk
  refine WL_q rfl (ev_assign rfl) ?_
  refine WL_nil ?_
  refine thenE_n ?_
  refine W_seq ?_
  refine W_region ?_
  refine WL_q rfl (ev_loads st36 sz36 rfl (cellsB hB2) rfl) ?_
  refine WL_m rfl (ev_call rfl (maGood_spec _ m _ hm (by omega) (by omega))) ?_
  rintro _ w6 ⟨b6, rfl, hb6, hE6⟩
  have hz6 := hE6.size
  replace hE := hE.trans hE6
  replace hm := hm.ext hE6
  replace hA := hA.ext hE6
  replace hB2 := hB2.ext hE6
  replace hB3 := hB3.ext hE6
  refine WL_q rfl (ev_move rfl) ?_
  refine WL_splitv (t := 7) rfl (fun hg6 => ?_) (fun hg6 => ?_)
  · have hp6 := hb6.1 hg6
    refine WL_qg rfl rfl hg6 rfl (ev_loads st40 sz40 rfl (cellsB hB3) rfl) ?_
    refine WL_mg rfl rfl hg6 rfl (ev_call rfl (neGood_spec _ A _ hA (by omega) (by omega))) ?_
    rintro _ w9 ⟨b9, rfl, hb9, hE9⟩
    have hz9 := hE9.size
    replace hE := hE.trans hE9
    replace hm := hm.ext hE9
    replace hA := hA.ext hE9
    replace hB2 := hB2.ext hE9
    replace hB3 := hB3.ext hE9
    refine WL_q rfl (ev_pick_t rfl hg6 rfl) ?_
    refine WL_q rfl (ev_move rfl) ?_
    refine WL_splitv (t := 11) rfl (fun hg9 => ?_) (fun hg9 => ?_)
    · have hp9 := hb9.1 hg9
      refine WL_qg rfl rfl hg9 rfl (ev_loads st36 sz36 rfl (cellsB hB2) rfl) ?_
      refine WL_qg rfl rfl hg9 rfl (ev_loads st40 sz40 rfl (cellsB hB3) rfl) ?_
      refine WL_mg rfl rfl hg9 rfl (ev_call rfl (maOn_spec _ m _ A _ hm (by omega) (by omega) hA (by omega) (by omega) (by assumption) (by assumption))) ?_
      rintro _ w14 ⟨b14, rfl, hb14, hE14⟩
      have hz14 := hE14.size
      replace hE := hE.trans hE14
      replace hm := hm.ext hE14
      replace hA := hA.ext hE14
      replace hB2 := hB2.ext hE14
      replace hB3 := hB3.ext hE14
      refine WL_q rfl (ev_pick_t rfl hg9 rfl) ?_
      refine WL_q rfl (ev_assign rfl) ?_
      refine WL_nil ?_
      refine thenE_n ?_
      refine W_ret ?_
      refine ret1 rfl rfl ?_
      first | (exact ⟨_, rfl, ⟨fun h => ⟨hp6, hp9, hb14.1 h⟩, fun h => hb14.2 h.2.2⟩, hE⟩) | (exact ⟨_, rfl, ffI fun h => hp6 h.1, hE⟩) | (exact ⟨_, rfl, ffI fun h => hp9 h.2.1, hE⟩)
    · have hp9 := ttN hb9 hg9
      refine WL_no rfl rfl hg9 rfl ?_
      refine WL_no rfl rfl hg9 rfl ?_
      refine WL_no rfl rfl hg9 rfl ?_
      refine WL_q rfl (ev_pick_f rfl hg9 rfl) ?_
      refine WL_q rfl (ev_assign rfl) ?_
      refine WL_nil ?_
      refine thenE_n ?_
      refine W_ret ?_
      refine ret1 rfl rfl ?_
      first | (exact ⟨_, rfl, ⟨fun h => ⟨hp6, hp9, hb14.1 h⟩, fun h => hb14.2 h.2.2⟩, hE⟩) | (exact ⟨_, rfl, ffI fun h => hp6 h.1, hE⟩) | (exact ⟨_, rfl, ffI fun h => hp9 h.2.1, hE⟩)
  · have hp6 := ttN hb6 hg6
    refine WL_no rfl rfl hg6 rfl ?_
    refine WL_no rfl rfl hg6 rfl ?_
    refine WL_q rfl (ev_pick_f rfl hg6 rfl) ?_
    refine WL_q rfl (ev_move rfl) ?_
    refine WL_no rfl rfl rfl rfl ?_
    refine WL_no rfl rfl rfl rfl ?_
    refine WL_no rfl rfl rfl rfl ?_
    refine WL_q rfl (ev_pick_f rfl rfl rfl) ?_
    refine WL_q rfl (ev_assign rfl) ?_
    refine WL_nil ?_
    refine thenE_n ?_
    refine W_ret ?_
    refine ret1 rfl rfl ?_
    first | (exact ⟨_, rfl, ⟨fun h => ⟨hp6, hp9, hb14.1 h⟩, fun h => hb14.2 h.2.2⟩, hE⟩) | (exact ⟨_, rfl, ffI fun h => hp6 h.1, hE⟩) | (exact ⟨_, rfl, ffI fun h => hp9 h.2.1, hE⟩)

set_option maxRecDepth 100000 in
theorem fits_spec {lom him : Nat} (nm : MA) (m : Mach) {loA hiA : Nat} (nA : NA) (A : Net) (w : World) (hm : IsMach lom him w nm m) (hhim : him ≤ w.heap.size) (hnm : totM m ≤ 1048576) (hA : IsNet loA hiA w nA A) (hhiA : hiA ≤ w.heap.size) (hnA : totN A ≤ 1048576) :
    Fn Try.prog 62 #[machV nm m, netV nA A] w (fun v w' => ∃ b, v = VB b ∧ (b = true ↔ Fits m A) ∧ Ext w w') := by
  have hmm : totL m.start + totL m.send + totC m.clauses + m.output.length ≤ 1048576 := hnm
  have hqA := totL_len A.ends
  have hmA : totL A.ends + A.ids.length + A.inputs.length ≤ 1048576 := hnA
  have hE := Ext.refl w
  refine Fn_of Try.func62 rfl rfl (by kernel_rfl) rfl ?_
  refine W_seq ?_
  refine W_region ?_
  refine WL_m rfl (ev_box rfl) ?_
  rintro _ w2 ⟨rfl, hN2⟩
  have hz2 := hN2.size
  replace hE := hE.trans hN2.ext
  replace hm := hm.ext hN2.ext
  replace hA := hA.ext hN2.ext
  have hB2 : Blk w2 _ _ [_, _, _, _, _, _, _] := hN2.blk
  refine WL_m rfl (ev_box rfl) ?_
  rintro _ w3 ⟨rfl, hN3⟩
  have hz3 := hN3.size
  replace hE := hE.trans hN3.ext
  replace hm := hm.ext hN3.ext
  replace hA := hA.ext hN3.ext
  replace hB2 := hB2.ext hN3.ext
  have hB3 : Blk w3 _ _ [_, _, _] := hN3.blk
  refine WL_q rfl (ev_assign rfl) ?_
  refine WL_nil ?_
  refine thenE_n ?_
  refine W_seq ?_
  refine W_region ?_
  refine WL_q rfl (ev_loads st36 sz36 rfl (cellsB hB2) rfl) ?_
  refine WL_m rfl (ev_call rfl (IsMachine_spec _ m _ hm (by omega) (by omega))) ?_
  rintro _ w6 ⟨b6, rfl, hb6, hE6⟩
  have hz6 := hE6.size
  replace hE := hE.trans hE6
  replace hm := hm.ext hE6
  replace hA := hA.ext hE6
  replace hB2 := hB2.ext hE6
  replace hB3 := hB3.ext hE6
  refine WL_q rfl (ev_move rfl) ?_
  refine WL_splitv (t := 7) rfl (fun hg6 => ?_) (fun hg6 => ?_)
  · have hp6 := hb6.1 hg6
    refine WL_qg rfl rfl hg6 rfl (ev_loads st40 sz40 rfl (cellsB hB3) rfl) ?_
    refine WL_mg rfl rfl hg6 rfl (ev_call rfl (IsNetwork_spec _ A _ hA (by omega) (by omega))) ?_
    rintro _ w9 ⟨b9, rfl, hb9, hE9⟩
    have hz9 := hE9.size
    replace hE := hE.trans hE9
    replace hm := hm.ext hE9
    replace hA := hA.ext hE9
    replace hB2 := hB2.ext hE9
    replace hB3 := hB3.ext hE9
    refine WL_q rfl (ev_pick_t rfl hg6 rfl) ?_
    refine WL_q rfl (ev_move rfl) ?_
    refine WL_splitv (t := 11) rfl (fun hg9 => ?_) (fun hg9 => ?_)
    · have hp9 := hb9.1 hg9
      refine WL_qg rfl rfl hg9 rfl (ev_loads st36 sz36 rfl (cellsB hB2) rfl) ?_
      refine WL_qg rfl rfl hg9 rfl (ev_loads st40 sz40 rfl (cellsB hB3) rfl) ?_
      refine WL_mg rfl rfl hg9 rfl (ev_call rfl (runsOn_spec _ m _ A _ hm (by omega) (by omega) hA (by omega) (by omega) (by assumption) (by assumption))) ?_
      rintro _ w14 ⟨b14, rfl, hb14, hE14⟩
      have hz14 := hE14.size
      replace hE := hE.trans hE14
      replace hm := hm.ext hE14
      replace hA := hA.ext hE14
      replace hB2 := hB2.ext hE14
      replace hB3 := hB3.ext hE14
      refine WL_q rfl (ev_pick_t rfl hg9 rfl) ?_
      refine WL_q rfl (ev_assign rfl) ?_
      refine WL_nil ?_
      refine thenE_n ?_
      refine W_ret ?_
      refine ret1 rfl rfl ?_
      first | (exact ⟨_, rfl, ⟨fun h => ⟨hp6, hp9, hb14.1 h⟩, fun h => hb14.2 h.2.2⟩, hE⟩) | (exact ⟨_, rfl, ffI fun h => hp6 h.1, hE⟩) | (exact ⟨_, rfl, ffI fun h => hp9 h.2.1, hE⟩)
    · have hp9 := ttN hb9 hg9
      refine WL_no rfl rfl hg9 rfl ?_
      refine WL_no rfl rfl hg9 rfl ?_
      refine WL_no rfl rfl hg9 rfl ?_
      refine WL_q rfl (ev_pick_f rfl hg9 rfl) ?_
      refine WL_q rfl (ev_assign rfl) ?_
      refine WL_nil ?_
      refine thenE_n ?_
      refine W_ret ?_
      refine ret1 rfl rfl ?_
      first | (exact ⟨_, rfl, ⟨fun h => ⟨hp6, hp9, hb14.1 h⟩, fun h => hb14.2 h.2.2⟩, hE⟩) | (exact ⟨_, rfl, ffI fun h => hp6 h.1, hE⟩) | (exact ⟨_, rfl, ffI fun h => hp9 h.2.1, hE⟩)
  · have hp6 := ttN hb6 hg6
    refine WL_no rfl rfl hg6 rfl ?_
    refine WL_no rfl rfl hg6 rfl ?_
    refine WL_q rfl (ev_pick_f rfl hg6 rfl) ?_
    refine WL_q rfl (ev_move rfl) ?_
    refine WL_no rfl rfl rfl rfl ?_
    refine WL_no rfl rfl rfl rfl ?_
    refine WL_no rfl rfl rfl rfl ?_
    refine WL_q rfl (ev_pick_f rfl rfl rfl) ?_
    refine WL_q rfl (ev_assign rfl) ?_
    refine WL_nil ?_
    refine thenE_n ?_
    refine W_ret ?_
    refine ret1 rfl rfl ?_
    first | (exact ⟨_, rfl, ⟨fun h => ⟨hp6, hp9, hb14.1 h⟩, fun h => hb14.2 h.2.2⟩, hE⟩) | (exact ⟨_, rfl, ffI fun h => hp6 h.1, hE⟩) | (exact ⟨_, rfl, ffI fun h => hp9 h.2.1, hE⟩)

set_option maxRecDepth 100000 in
theorem sRunsOn_spec {lom him : Nat} (nm : MA) (m : Mach) {loA hiA : Nat} (nA : NA) (A : Net) (w : World) (hm : IsMach lom him w nm m) (hhim : him ≤ w.heap.size) (hnm : totM m ≤ 1048576) (hA : IsNet loA hiA w nA A) (hhiA : hiA ≤ w.heap.size) (hnA : totN A ≤ 1048576) :
    Fn Try.prog 14 #[machV nm m, netV nA A] w (fun v w' => ∃ b q, v = .tuple #[VB b, VB q] ∧ Two b q (MOk m ∧ NOk A) (OnM m A) ∧ Ext w w') := by
  have hmm : totL m.start + totL m.send + totC m.clauses + m.output.length ≤ 1048576 := hnm
  have hqA := totL_len A.ends
  have hmA : totL A.ends + A.ids.length + A.inputs.length ≤ 1048576 := hnA
  have hE := Ext.refl w
  refine Fn_of Try.func14 rfl rfl (by kernel_rfl) rfl ?_
  refine W_seq ?_
  refine W_region ?_
  refine WL_m rfl (ev_box rfl) ?_
  rintro _ w2 ⟨rfl, hN2⟩
  have hz2 := hN2.size
  replace hE := hE.trans hN2.ext
  replace hm := hm.ext hN2.ext
  replace hA := hA.ext hN2.ext
  have hB2 : Blk w2 _ _ [_, _, _, _, _, _, _] := hN2.blk
  refine WL_m rfl (ev_box rfl) ?_
  rintro _ w3 ⟨rfl, hN3⟩
  have hz3 := hN3.size
  replace hE := hE.trans hN3.ext
  replace hm := hm.ext hN3.ext
  replace hA := hA.ext hN3.ext
  replace hB2 := hB2.ext hN3.ext
  have hB3 : Blk w3 _ _ [_, _, _] := hN3.blk
  refine WL_q rfl (ev_assign rfl) ?_
  refine WL_q rfl (ev_assign rfl) ?_
  refine WL_nil ?_
  refine thenE_n ?_
  refine W_seq ?_
  refine W_seq ?_
  refine W_region ?_
  refine WL_q rfl (ev_loads st36 sz36 rfl (cellsB hB2) rfl) ?_
  refine WL_m rfl (ev_call rfl (maGood_spec _ m _ hm (by omega) (by omega))) ?_
  rintro _ w7 ⟨b7, rfl, hb7, hE7⟩
  have hz7 := hE7.size
  replace hE := hE.trans hE7
  replace hm := hm.ext hE7
  replace hA := hA.ext hE7
  replace hB2 := hB2.ext hE7
  replace hB3 := hB3.ext hE7
  refine WL_q rfl (ev_not rfl) ?_
  refine WL_q rfl (ev_move rfl) ?_
  refine WL_splitv (t := 9) rfl (fun hg8 => ?_) (fun hg8 => ?_)
  · have hg7 := not_true hg8
    have hp7 := ttN hb7 hg7
    refine WL_no rfl rfl hg8 rfl ?_
    refine WL_no rfl rfl hg8 rfl ?_
    refine WL_no rfl rfl hg8 rfl ?_
    refine WL_q rfl (ev_pick_t rfl hg8 rfl) ?_
    refine WL_nil ?_
    refine thenE_n ?_
    refine W_cond_t rfl ?_
    refine W_seq ?_
    refine W_region ?_
    refine WL_q rfl (ev_assign rfl) ?_
    refine WL_q rfl (ev_assign rfl) ?_
    refine WL_nil ?_
    refine thenE_n ?_
    refine W_ret ?_
    refine thenE_r ?_
    refine ret2 rfl rfl rfl ?_
    first | (exact ⟨_, _, rfl, .no fun h => hp7 h.1, hE⟩) | (exact ⟨_, _, rfl, .no fun h => hp11 h.2, hE⟩) | (exact ⟨_, _, rfl, .yes ⟨hp7, hp11⟩ hb16, hE⟩)
  · have hg7 := not_false hg8
    have hp7 := hb7.1 hg7
    refine WL_qg rfl rfl hg8 rfl (ev_loads st40 sz40 rfl (cellsB hB3) rfl) ?_
    refine WL_mg rfl rfl hg8 rfl (ev_call rfl (neGood_spec _ A _ hA (by omega) (by omega))) ?_
    rintro _ w11 ⟨b11, rfl, hb11, hE11⟩
    have hz11 := hE11.size
    replace hE := hE.trans hE11
    replace hm := hm.ext hE11
    replace hA := hA.ext hE11
    replace hB2 := hB2.ext hE11
    replace hB3 := hB3.ext hE11
    refine WL_qg rfl rfl hg8 rfl (ev_not rfl) ?_
    refine WL_q rfl (ev_pick_f rfl hg8 rfl) ?_
    refine WL_nil ?_
    refine thenE_n ?_
    refine W_cond rfl (fun hg12 => ?_) (fun hg12 => ?_)
    · have hg11 := not_true hg12
      have hp11 := ttN hb11 hg11
      refine W_seq ?_
      refine W_region ?_
      refine WL_q rfl (ev_assign rfl) ?_
      refine WL_q rfl (ev_assign rfl) ?_
      refine WL_nil ?_
      refine thenE_n ?_
      refine W_ret ?_
      refine thenE_r ?_
      refine ret2 rfl rfl rfl ?_
      first | (exact ⟨_, _, rfl, .no fun h => hp7 h.1, hE⟩) | (exact ⟨_, _, rfl, .no fun h => hp11 h.2, hE⟩) | (exact ⟨_, _, rfl, .yes ⟨hp7, hp11⟩ hb16, hE⟩)
    · have hg11 := not_false hg12
      have hp11 := hb11.1 hg11
      refine W_skip ?_
      refine thenE_n ?_
      refine W_seq ?_
      refine W_region ?_
      refine WL_q rfl (ev_loads st36 sz36 rfl (cellsB hB2) rfl) ?_
      refine WL_q rfl (ev_loads st40 sz40 rfl (cellsB hB3) rfl) ?_
      refine WL_m rfl (ev_call rfl (maOn_spec _ m _ A _ hm (by omega) (by omega) hA (by omega) (by omega) (by assumption) (by assumption))) ?_
      rintro _ w16 ⟨b16, rfl, hb16, hE16⟩
      have hz16 := hE16.size
      replace hE := hE.trans hE16
      replace hm := hm.ext hE16
      replace hA := hA.ext hE16
      replace hB2 := hB2.ext hE16
      replace hB3 := hB3.ext hE16
      refine WL_q rfl (ev_assign rfl) ?_
      refine WL_q rfl (ev_assign rfl) ?_
      refine WL_nil ?_
      refine thenE_n ?_
      refine W_ret ?_
      refine ret2 rfl rfl rfl ?_
      first | (exact ⟨_, _, rfl, .no fun h => hp7 h.1, hE⟩) | (exact ⟨_, _, rfl, .no fun h => hp11 h.2, hE⟩) | (exact ⟨_, _, rfl, .yes ⟨hp7, hp11⟩ hb16, hE⟩)

set_option maxRecDepth 100000 in
theorem RunsOn_spec {lom him : Nat} (nm : MA) (m : Mach) {loA hiA : Nat} (nA : NA) (A : Net) (w : World) (hm : IsMach lom him w nm m) (hhim : him ≤ w.heap.size) (hnm : totM m ≤ 1048576) (hA : IsNet loA hiA w nA A) (hhiA : hiA ≤ w.heap.size) (hnA : totN A ≤ 1048576) :
    Fn Try.prog 17 #[machV nm m, netV nA A] w (fun v w' => ∃ b q, v = .tuple #[VB b, VB q] ∧ Two b q (MOk m ∧ NOk A) (OnM m A) ∧ Ext w w') := by
  have hmm : totL m.start + totL m.send + totC m.clauses + m.output.length ≤ 1048576 := hnm
  have hqA := totL_len A.ends
  have hmA : totL A.ends + A.ids.length + A.inputs.length ≤ 1048576 := hnA
  have hE := Ext.refl w
  refine Fn_of Try.func17 rfl rfl (by kernel_rfl) rfl ?_
  refine W_seq ?_
  refine W_region ?_
  refine WL_m rfl (ev_box rfl) ?_
  rintro _ w2 ⟨rfl, hN2⟩
  have hz2 := hN2.size
  replace hE := hE.trans hN2.ext
  replace hm := hm.ext hN2.ext
  replace hA := hA.ext hN2.ext
  have hB2 : Blk w2 _ _ [_, _, _, _, _, _, _] := hN2.blk
  refine WL_m rfl (ev_box rfl) ?_
  rintro _ w3 ⟨rfl, hN3⟩
  have hz3 := hN3.size
  replace hE := hE.trans hN3.ext
  replace hm := hm.ext hN3.ext
  replace hA := hA.ext hN3.ext
  replace hB2 := hB2.ext hN3.ext
  have hB3 : Blk w3 _ _ [_, _, _] := hN3.blk
  refine WL_q rfl (ev_assign rfl) ?_
  refine WL_q rfl (ev_assign rfl) ?_
  refine WL_nil ?_
  refine thenE_n ?_
  refine W_seq ?_
  refine W_seq ?_
  refine W_region ?_
  refine WL_q rfl (ev_loads st36 sz36 rfl (cellsB hB2) rfl) ?_
  refine WL_m rfl (ev_call rfl (IsMachine_spec _ m _ hm (by omega) (by omega))) ?_
  rintro _ w7 ⟨b7, rfl, hb7, hE7⟩
  have hz7 := hE7.size
  replace hE := hE.trans hE7
  replace hm := hm.ext hE7
  replace hA := hA.ext hE7
  replace hB2 := hB2.ext hE7
  replace hB3 := hB3.ext hE7
  refine WL_q rfl (ev_not rfl) ?_
  refine WL_q rfl (ev_move rfl) ?_
  refine WL_splitv (t := 9) rfl (fun hg8 => ?_) (fun hg8 => ?_)
  · have hg7 := not_true hg8
    have hp7 := ttN hb7 hg7
    refine WL_no rfl rfl hg8 rfl ?_
    refine WL_no rfl rfl hg8 rfl ?_
    refine WL_no rfl rfl hg8 rfl ?_
    refine WL_q rfl (ev_pick_t rfl hg8 rfl) ?_
    refine WL_nil ?_
    refine thenE_n ?_
    refine W_cond_t rfl ?_
    refine W_seq ?_
    refine W_region ?_
    refine WL_q rfl (ev_assign rfl) ?_
    refine WL_q rfl (ev_assign rfl) ?_
    refine WL_nil ?_
    refine thenE_n ?_
    refine W_ret ?_
    refine thenE_r ?_
    refine ret2 rfl rfl rfl ?_
    first | (exact ⟨_, _, rfl, .no fun h => hp7 h.1, hE⟩) | (exact ⟨_, _, rfl, .no fun h => hp11 h.2, hE⟩) | (exact ⟨_, _, rfl, .yes ⟨hp7, hp11⟩ hb16, hE⟩)
  · have hg7 := not_false hg8
    have hp7 := hb7.1 hg7
    refine WL_qg rfl rfl hg8 rfl (ev_loads st40 sz40 rfl (cellsB hB3) rfl) ?_
    refine WL_mg rfl rfl hg8 rfl (ev_call rfl (IsNetwork_spec _ A _ hA (by omega) (by omega))) ?_
    rintro _ w11 ⟨b11, rfl, hb11, hE11⟩
    have hz11 := hE11.size
    replace hE := hE.trans hE11
    replace hm := hm.ext hE11
    replace hA := hA.ext hE11
    replace hB2 := hB2.ext hE11
    replace hB3 := hB3.ext hE11
    refine WL_qg rfl rfl hg8 rfl (ev_not rfl) ?_
    refine WL_q rfl (ev_pick_f rfl hg8 rfl) ?_
    refine WL_nil ?_
    refine thenE_n ?_
    refine W_cond rfl (fun hg12 => ?_) (fun hg12 => ?_)
    · have hg11 := not_true hg12
      have hp11 := ttN hb11 hg11
      refine W_seq ?_
      refine W_region ?_
      refine WL_q rfl (ev_assign rfl) ?_
      refine WL_q rfl (ev_assign rfl) ?_
      refine WL_nil ?_
      refine thenE_n ?_
      refine W_ret ?_
      refine thenE_r ?_
      refine ret2 rfl rfl rfl ?_
      first | (exact ⟨_, _, rfl, .no fun h => hp7 h.1, hE⟩) | (exact ⟨_, _, rfl, .no fun h => hp11 h.2, hE⟩) | (exact ⟨_, _, rfl, .yes ⟨hp7, hp11⟩ hb16, hE⟩)
    · have hg11 := not_false hg12
      have hp11 := hb11.1 hg11
      refine W_skip ?_
      refine thenE_n ?_
      refine W_seq ?_
      refine W_region ?_
      refine WL_q rfl (ev_loads st36 sz36 rfl (cellsB hB2) rfl) ?_
      refine WL_q rfl (ev_loads st40 sz40 rfl (cellsB hB3) rfl) ?_
      refine WL_m rfl (ev_call rfl (runsOn_spec _ m _ A _ hm (by omega) (by omega) hA (by omega) (by omega) (by assumption) (by assumption))) ?_
      rintro _ w16 ⟨b16, rfl, hb16, hE16⟩
      have hz16 := hE16.size
      replace hE := hE.trans hE16
      replace hm := hm.ext hE16
      replace hA := hA.ext hE16
      replace hB2 := hB2.ext hE16
      replace hB3 := hB3.ext hE16
      refine WL_q rfl (ev_assign rfl) ?_
      refine WL_q rfl (ev_assign rfl) ?_
      refine WL_nil ?_
      refine thenE_n ?_
      refine W_ret ?_
      refine ret2 rfl rfl rfl ?_
      first | (exact ⟨_, _, rfl, .no fun h => hp7 h.1, hE⟩) | (exact ⟨_, _, rfl, .no fun h => hp11 h.2, hE⟩) | (exact ⟨_, _, rfl, .yes ⟨hp7, hp11⟩ hb16, hE⟩)

set_option maxRecDepth 100000 in
theorem law_RunsOn (nm : MA) (m : Mach) (nA : NA) (A : Net) (w : World) (hm : IsMach 0 w.heap.size w nm m) (hsm : SmM m) (hA : IsNet 0 w.heap.size w nA A) (hsA : SmN A) :
    Fn Try.prog 3 #[machV nm m, netV nA A] w (fun v w' => v = VB true ∧ Ext w w') := by
  have hE := Ext.refl w
  refine Fn_of Try.func3 rfl rfl (by kernel_rfl) rfl ?_
  refine W_seq ?_
  refine W_region ?_
  refine WL_m rfl (ev_box rfl) ?_
  rintro _ w2 ⟨rfl, hN2⟩
  have hz2 := hN2.size
  replace hE := hE.trans hN2.ext
  replace hm := hm.ext hN2.ext
  replace hA := hA.ext hN2.ext
  have hB2 : Blk w2 _ _ [_, _, _, _, _, _, _] := hN2.blk
  refine WL_m rfl (ev_box rfl) ?_
  rintro _ w3 ⟨rfl, hN3⟩
  have hz3 := hN3.size
  replace hE := hE.trans hN3.ext
  replace hm := hm.ext hN3.ext
  replace hA := hA.ext hN3.ext
  replace hB2 := hB2.ext hN3.ext
  have hB3 : Blk w3 _ _ [_, _, _] := hN3.blk
  refine WL_q rfl (ev_assign rfl) ?_
  refine WL_nil ?_
  refine thenE_n ?_
  refine W_seq ?_
  refine W_region ?_
  refine WL_q rfl (ev_assign rfl) ?_
  refine WL_nil ?_
  refine thenE_n ?_
  refine W_seq ?_
  refine W_region ?_
  refine WL_q rfl (ev_loads st26 sz26 rfl (cellsB hB2) rfl) ?_
  refine WL_q rfl (ev_move rfl) ?_
  refine WL_m rfl (ev_call rfl (szMachine_spec _ m _ _ hm (by omega) hsm)) ?_
  rintro _ w14 ⟨r14, rfl, hE14, hr14⟩
  have hz14 := hE14.size
  replace hE := hE.trans hE14
  replace hm := hm.ext hE14
  replace hA := hA.ext hE14
  replace hB2 := hB2.ext hE14
  replace hB3 := hB3.ext hE14
  refine WL_q rfl (ev_assign rfl) ?_
  refine WL_nil ?_
  refine thenE_n ?_
  refine W_seq ?_
  refine W_seq ?_
  refine W_region ?_
  refine WL_q rfl (ev_move rfl) ?_
  refine WL_q rfl (ev_lss rfl rfl) ?_
  refine WL_nil ?_
  refine thenE_n ?_
  refine W_cond rfl (fun hg16 => ?_) (fun hg16 => ?_)
  · have hp16 := of_decide_eq_true hg16
    refine W_seq ?_
    refine W_region ?_
    refine WL_q rfl (ev_assign rfl) ?_
    refine WL_nil ?_
    refine thenE_n ?_
    refine W_ret ?_
    refine thenE_r ?_
    refine ret1 rfl rfl ?_
    first | (exact ⟨rfl, hE⟩) | (exact (tfX hg16).elim) | (exact (decF hg16).elim) | (exfalso; omega)
  · have hp16 := of_decide_eq_false hg16
    refine W_skip ?_
    refine thenE_n ?_
    refine W_seq ?_
    refine W_region ?_
    refine WL_q rfl (ev_loads st29 sz29 rfl (cellsB hB3) rfl) ?_
    refine WL_q rfl (ev_move rfl) ?_
    refine WL_m rfl (ev_call rfl (szNetwork_spec _ A _ _ hA (by omega) hsA)) ?_
    rintro _ w19 ⟨r19, rfl, hE19, hr19⟩
    have hz19 := hE19.size
    replace hE := hE.trans hE19
    replace hm := hm.ext hE19
    replace hA := hA.ext hE19
    replace hB2 := hB2.ext hE19
    replace hB3 := hB3.ext hE19
    refine WL_q rfl (ev_assign rfl) ?_
    refine WL_nil ?_
    refine thenE_n ?_
    refine W_seq ?_
    refine W_seq ?_
    refine W_region ?_
    refine WL_q rfl (ev_move rfl) ?_
    refine WL_q rfl (ev_lss rfl rfl) ?_
    refine WL_nil ?_
    refine thenE_n ?_
    refine W_cond rfl (fun hg21 => ?_) (fun hg21 => ?_)
    · have hp21 := of_decide_eq_true hg21
      refine W_seq ?_
      refine W_region ?_
      refine WL_q rfl (ev_assign rfl) ?_
      refine WL_nil ?_
      refine thenE_n ?_
      refine W_ret ?_
      refine thenE_r ?_
      refine ret1 rfl rfl ?_
      first | (exact ⟨rfl, hE⟩) | (exact (tfX hg21).elim) | (exact (decF hg21).elim) | (exfalso; omega)
    · have hp21 := of_decide_eq_false hg21
      refine W_skip ?_
      refine thenE_n ?_
      refine W_seq ?_
      refine W_drawE [(0, true), (2, true), (1, false), (3, false), (4, false), (5, true), (6, true), (7, true), (8, true), (9, true)] mixed (by kernel_rfl) rfl (by kernel_rfl) ?_
      intro wd8 hEd8 hzd8
      replace hE := hE.trans hEd8
      replace hm := hm.ext hEd8
      replace hA := hA.ext hEd8
      replace hB2 := hB2.ext hEd8
      replace hB3 := hB3.ext hEd8
      have hDd8 := Ext.refl wd8
      refine PW_q rfl rfl (fun wq hq => ev_loads st26 sz26 rfl (cellsB (hq.blk hB2)) rfl) ?_
      refine PW_q rfl rfl (fun wq hq => ev_loads st29 sz29 rfl (cellsB (hq.blk hB3)) rfl) ?_
      refine PW_m rfl rfl (ev_call rfl (toMachine_spec _ m _ hm (by omega) (by omega))) ?_
      rintro _ w24 ⟨h24, rfl, hF24, hE24⟩
      have hz24 := hE24.size
      replace hE := hE.trans hE24
      replace hDd8 := hDd8.trans hE24
      have hM24 := hF24.is
      refine ⟨hDd8, ?_⟩
      have hm_3 := hm.ext hDd8
      have hA_3 := hA.ext hDd8
      have hB2_3 := hB2.ext hDd8
      have hB3_3 := hB3.ext hDd8
      refine PW_m rfl rfl (ev_call rfl (toNetwork_spec _ A _ hA_3 (by omega) (by omega))) ?_
      rintro _ w26 ⟨h26, rfl, hF26, hE26⟩
      have hz26 := hE26.size
      replace hE := hE.trans hE26
      replace hDd8 := hDd8.trans hE26
      replace hF24 := hF24.ext hE26
      replace hM24 := hM24.ext hE26
      have hN26 := hF26.is
      refine ⟨hDd8, ?_⟩
      have hm_4 := hm.ext hDd8
      have hA_4 := hA.ext hDd8
      have hB2_4 := hB2.ext hDd8
      have hB3_4 := hB3.ext hDd8
      refine PW_m rfl rfl (ev_call rfl (sRunsOn_spec _ m _ A _ hM24 (by omega) (by omega) hN26 (by omega) (by omega))) ?_
      rintro _ w27 ⟨b27, q27, rfl, hr27, hE27⟩
      have hz27 := hE27.size
      replace hE := hE.trans hE27
      replace hDd8 := hDd8.trans hE27
      replace hF24 := hF24.ext hE27
      replace hM24 := hM24.ext hE27
      replace hF26 := hF26.ext hE27
      replace hN26 := hN26.ext hE27
      refine ⟨hDd8, ?_⟩
      refine PW_q rfl rfl (fun wq hq => ev_move rfl) ?_
      refine PW_q rfl rfl (fun wq hq => ev_extract rfl rfl) ?_
      refine PW_q rfl rfl (fun wq hq => ev_extract rfl rfl) ?_
      refine PW_q rfl rfl (fun wq hq => ev_assign rfl) ?_
      refine PW_q rfl rfl (fun wq hq => ev_assign rfl) ?_
      replace hm := hm.ext hDd8
      replace hA := hA.ext hDd8
      replace hB2 := hB2.ext hDd8
      replace hB3 := hB3.ext hDd8
      refine PW_nil ?_
      refine thenE_n ?_
      refine W_seq ?_
      refine W_region ?_
      refine WL_q rfl (ev_loads st26 sz26 rfl (cellsB hB2) rfl) ?_
      refine WL_m rfl (ev_call rfl (toMachine_spec _ m _ hm (by omega) (by omega))) ?_
      rintro _ w31 ⟨h31, rfl, hF31, hE31⟩
      have hz31 := hE31.size
      replace hE := hE.trans hE31
      replace hm := hm.ext hE31
      replace hA := hA.ext hE31
      replace hB2 := hB2.ext hE31
      replace hB3 := hB3.ext hE31
      replace hF24 := hF24.ext hE31
      replace hM24 := hM24.ext hE31
      replace hF26 := hF26.ext hE31
      replace hN26 := hN26.ext hE31
      have hM31 := hF31.is
      refine WL_m rfl (ev_alloc zr36) ?_
      rintro _ w8 ⟨rfl, hN8⟩
      have hz8 := hN8.size
      replace hE := hE.trans hN8.ext
      replace hm := hm.ext hN8.ext
      replace hA := hA.ext hN8.ext
      replace hB2 := hB2.ext hN8.ext
      replace hB3 := hB3.ext hN8.ext
      replace hF24 := hF24.ext hN8.ext
      replace hM24 := hM24.ext hN8.ext
      replace hF26 := hF26.ext hN8.ext
      replace hN26 := hN26.ext hN8.ext
      replace hF31 := hF31.ext hN8.ext
      replace hM31 := hM31.ext hN8.ext
      have hB8 : Blk w8 _ _ [_, _, _, _, _, _, _] := hN8.blk
      refine WL_s (ev_stores sz36 rfl rfl rfl (by simp [Value.oneCell']) hB8 (by simp)) ?_
      rintro _ w9_3 hS9_3
      have hz9_3 := hS9_3.size
      replace hE := hE.sto hS9_3 (by omega)
      replace hm := hm.sto hS9_3 (by omega)
      replace hA := hA.sto hS9_3 (by omega)
      replace hB2 := hB2.sto hS9_3 (by omega)
      replace hB3 := hB3.sto hS9_3 (by omega)
      replace hF24 := hF24.sto hS9_3 (by omega)
      replace hM24 := hM24.sto hS9_3 (by omega)
      replace hF26 := hF26.sto hS9_3 (by omega)
      replace hN26 := hN26.sto hS9_3 (by omega)
      replace hF31 := hF31.sto hS9_3 (by omega)
      replace hM31 := hM31.sto hS9_3 (by omega)
      replace hB8 : Blk w9_3 _ _ [_, _, _, _, _, _, _] := hS9_3.blk
      refine WL_nil ?_
      refine thenE_n ?_
      refine W_seq ?_
      refine W_region ?_
      refine WL_q rfl (ev_loads st29 sz29 rfl (cellsB hB3) rfl) ?_
      refine WL_m rfl (ev_call rfl (toNetwork_spec _ A _ hA (by omega) (by omega))) ?_
      rintro _ w33 ⟨h33, rfl, hF33, hE33⟩
      have hz33 := hE33.size
      replace hE := hE.trans hE33
      replace hm := hm.ext hE33
      replace hA := hA.ext hE33
      replace hB2 := hB2.ext hE33
      replace hB3 := hB3.ext hE33
      replace hF24 := hF24.ext hE33
      replace hM24 := hM24.ext hE33
      replace hF26 := hF26.ext hE33
      replace hN26 := hN26.ext hE33
      replace hF31 := hF31.ext hE33
      replace hM31 := hM31.ext hE33
      replace hB8 := hB8.ext hE33
      have hN33 := hF33.is
      refine WL_m rfl (ev_alloc zr40) ?_
      rintro _ w9 ⟨rfl, hN9⟩
      have hz9 := hN9.size
      replace hE := hE.trans hN9.ext
      replace hm := hm.ext hN9.ext
      replace hA := hA.ext hN9.ext
      replace hB2 := hB2.ext hN9.ext
      replace hB3 := hB3.ext hN9.ext
      replace hF24 := hF24.ext hN9.ext
      replace hM24 := hM24.ext hN9.ext
      replace hF26 := hF26.ext hN9.ext
      replace hN26 := hN26.ext hN9.ext
      replace hF31 := hF31.ext hN9.ext
      replace hM31 := hM31.ext hN9.ext
      replace hB8 := hB8.ext hN9.ext
      replace hF33 := hF33.ext hN9.ext
      replace hN33 := hN33.ext hN9.ext
      have hB9 : Blk w9 _ _ [_, _, _] := hN9.blk
      refine WL_s (ev_stores sz40 rfl rfl rfl (by simp [Value.oneCell']) hB9 (by simp)) ?_
      rintro _ w10_3 hS10_3
      have hz10_3 := hS10_3.size
      replace hE := hE.sto hS10_3 (by omega)
      replace hm := hm.sto hS10_3 (by omega)
      replace hA := hA.sto hS10_3 (by omega)
      replace hB2 := hB2.sto hS10_3 (by omega)
      replace hB3 := hB3.sto hS10_3 (by omega)
      replace hF24 := hF24.sto hS10_3 (by omega)
      replace hM24 := hM24.sto hS10_3 (by omega)
      replace hF26 := hF26.sto hS10_3 (by omega)
      replace hN26 := hN26.sto hS10_3 (by omega)
      replace hF31 := hF31.sto hS10_3 (by omega)
      replace hM31 := hM31.sto hS10_3 (by omega)
      replace hB8 := hB8.sto hS10_3 (by omega)
      replace hF33 := hF33.sto hS10_3 (by omega)
      replace hN33 := hN33.sto hS10_3 (by omega)
      replace hB9 : Blk w10_3 _ _ [_, _, _] := hS10_3.blk
      refine WL_nil ?_
      refine thenE_n ?_
      refine W_seq ?_
      refine W_region ?_
      refine WL_q rfl (ev_loads st36 sz36 rfl (cellsB hB8) rfl) ?_
      refine WL_q rfl (ev_loads st40 sz40 rfl (cellsB hB9) rfl) ?_
      refine WL_m rfl (ev_call rfl (RunsOn_spec _ m _ A _ hM31 (by omega) (by omega) hN33 (by omega) (by omega))) ?_
      rintro _ w37 ⟨b37, q37, rfl, hr37, hE37⟩
      have hz37 := hE37.size
      replace hE := hE.trans hE37
      replace hm := hm.ext hE37
      replace hA := hA.ext hE37
      replace hB2 := hB2.ext hE37
      replace hB3 := hB3.ext hE37
      replace hF24 := hF24.ext hE37
      replace hM24 := hM24.ext hE37
      replace hF26 := hF26.ext hE37
      replace hN26 := hN26.ext hE37
      replace hF31 := hF31.ext hE37
      replace hM31 := hM31.ext hE37
      replace hB8 := hB8.ext hE37
      replace hF33 := hF33.ext hE37
      replace hN33 := hN33.ext hE37
      replace hB9 := hB9.ext hE37
      refine WL_q rfl (ev_move rfl) ?_
      refine WL_q rfl (ev_extract rfl rfl) ?_
      refine WL_q rfl (ev_extract rfl rfl) ?_
      refine WL_q rfl (ev_assign rfl) ?_
      refine WL_q rfl (ev_assign rfl) ?_
      refine WL_nil ?_
      refine thenE_n ?_
      refine W_seq ?_
      refine W_seq ?_
      refine W_region ?_
      refine WL_q rfl (ev_move rfl) ?_
      refine WL_q rfl (ev_move rfl) ?_
      refine WL_q rfl (ev_neq_b Try.underlying4 rfl rfl) ?_
      refine WL_q rfl (ev_move rfl) ?_
      refine WL_splitv (t := 43) rfl (fun hg42 => ?_) (fun hg42 => ?_)
      · refine WL_no rfl rfl hg42 rfl ?_
        refine WL_no rfl rfl hg42 rfl ?_
        refine WL_no rfl rfl hg42 rfl ?_
        refine WL_q rfl (ev_pick_t rfl hg42 rfl) ?_
        refine WL_nil ?_
        refine thenE_n ?_
        refine W_cond_t rfl ?_
        refine W_seq ?_
        refine W_region ?_
        refine WL_q rfl (ev_assign rfl) ?_
        refine WL_nil ?_
        refine thenE_n ?_
        refine W_ret ?_
        refine thenE_r ?_
        refine ret1 rfl rfl ?_
        first | (exact ⟨rfl, hE⟩) | (exact (bneE hg42 (hr37.det1 hr27)).elim) | (exact absurd (hr37.det1 hr27) hp42) | (exact absurd (hr37.det1 hr27) (of_decide_eq_false hg42)) | (exact (bneE hg42 (hr37.det2 hr27)).elim) | (exact absurd (hr37.det2 hr27) hp42) | (exact absurd (hr37.det2 hr27) (of_decide_eq_false hg42)) | (exact (bneE hg42 (hr37.det3 hr27)).elim) | (exact absurd (hr37.det3 hr27) hp42) | (exact absurd (hr37.det3 hr27) (of_decide_eq_false hg42)) | (exact (tfX hg42).elim) | (exact (decF hg42).elim) | (exfalso; omega)
      · refine WL_qg rfl rfl hg42 rfl (ev_move rfl) ?_
        refine WL_qg rfl rfl hg42 rfl (ev_move rfl) ?_
        refine WL_qg rfl rfl hg42 rfl (ev_neq_b Try.underlying4 rfl rfl) ?_
        refine WL_q rfl (ev_pick_f rfl hg42 rfl) ?_
        refine WL_nil ?_
        refine thenE_n ?_
        refine W_cond rfl (fun hg46 => ?_) (fun hg46 => ?_)
        · refine W_seq ?_
          refine W_region ?_
          refine WL_q rfl (ev_assign rfl) ?_
          refine WL_nil ?_
          refine thenE_n ?_
          refine W_ret ?_
          refine thenE_r ?_
          refine ret1 rfl rfl ?_
          first | (exact ⟨rfl, hE⟩) | (exact (bneE hg46 (hr37.det1 hr27)).elim) | (exact absurd (hr37.det1 hr27) hp46) | (exact absurd (hr37.det1 hr27) (of_decide_eq_false hg46)) | (exact (bneE hg46 (hr37.det2 hr27)).elim) | (exact absurd (hr37.det2 hr27) hp46) | (exact absurd (hr37.det2 hr27) (of_decide_eq_false hg46)) | (exact (bneE hg46 (hr37.det3 hr27)).elim) | (exact absurd (hr37.det3 hr27) hp46) | (exact absurd (hr37.det3 hr27) (of_decide_eq_false hg46)) | (exact (tfX hg46).elim) | (exact (decF hg46).elim) | (exfalso; omega)
        · refine W_skip ?_
          refine thenE_n ?_
          refine W_seq ?_
          refine W_seq ?_
          refine W_drawE [(0, true), (1, true), (2, false), (3, false), (4, true)] mixed (by kernel_rfl) rfl (by kernel_rfl) ?_
          intro wd14 hEd14 hzd14
          replace hE := hE.trans hEd14
          replace hm := hm.ext hEd14
          replace hA := hA.ext hEd14
          replace hB2 := hB2.ext hEd14
          replace hB3 := hB3.ext hEd14
          replace hF24 := hF24.ext hEd14
          replace hM24 := hM24.ext hEd14
          replace hF26 := hF26.ext hEd14
          replace hN26 := hN26.ext hEd14
          replace hF31 := hF31.ext hEd14
          replace hM31 := hM31.ext hEd14
          replace hB8 := hB8.ext hEd14
          replace hF33 := hF33.ext hEd14
          replace hN33 := hN33.ext hEd14
          replace hB9 := hB9.ext hEd14
          have hDd14 := Ext.refl wd14
          refine PW_q rfl rfl (fun wq hq => ev_loads st36 sz36 rfl (cellsB (hq.blk hB8)) rfl) ?_
          refine PW_q rfl rfl (fun wq hq => ev_loads st26 sz26 rfl (cellsB (hq.blk hB2)) rfl) ?_
          refine PW_m rfl rfl (ev_call rfl (toMachine_spec _ m _ hm (by omega) (by omega))) ?_
          rintro _ w50 ⟨h50, rfl, hF50, hE50⟩
          have hz50 := hE50.size
          replace hE := hE.trans hE50
          replace hDd14 := hDd14.trans hE50
          have hM50 := hF50.is
          refine ⟨hDd14, ?_⟩
          have hm_3 := hm.ext hDd14
          have hA_3 := hA.ext hDd14
          have hB2_3 := hB2.ext hDd14
          have hB3_3 := hB3.ext hDd14
          have hF24_3 := hF24.ext hDd14
          have hM24_3 := hM24.ext hDd14
          have hF26_3 := hF26.ext hDd14
          have hN26_3 := hN26.ext hDd14
          have hF31_3 := hF31.ext hDd14
          have hM31_3 := hM31.ext hDd14
          have hB8_3 := hB8.ext hDd14
          have hF33_3 := hF33.ext hDd14
          have hN33_3 := hN33.ext hDd14
          have hB9_3 := hB9.ext hDd14
          refine PW_m rfl rfl (ev_call rfl (eqMachine_spec _ _ m _ hM31_3 hM50 (by omega))) ?_
          rintro _ w51 ⟨rfl, hE51⟩
          have hz51 := hE51.size
          replace hE := hE.trans hE51
          replace hDd14 := hDd14.trans hE51
          replace hF50 := hF50.ext hE51
          replace hM50 := hM50.ext hE51
          refine ⟨hDd14, ?_⟩
          refine PW_q rfl rfl (fun wq hq => ev_not rfl) ?_
          replace hm := hm.ext hDd14
          replace hA := hA.ext hDd14
          replace hB2 := hB2.ext hDd14
          replace hB3 := hB3.ext hDd14
          replace hF24 := hF24.ext hDd14
          replace hM24 := hM24.ext hDd14
          replace hF26 := hF26.ext hDd14
          replace hN26 := hN26.ext hDd14
          replace hF31 := hF31.ext hDd14
          replace hM31 := hM31.ext hDd14
          replace hB8 := hB8.ext hDd14
          replace hF33 := hF33.ext hDd14
          replace hN33 := hN33.ext hDd14
          replace hB9 := hB9.ext hDd14
          refine PW_nil ?_
          refine thenE_n ?_
          refine W_cond rfl (fun hg52 => ?_) (fun hg52 => ?_)
          · have hg51 := not_true hg52
            refine W_seq ?_
            refine W_region ?_
            refine WL_q rfl (ev_assign rfl) ?_
            refine WL_nil ?_
            refine thenE_n ?_
            refine W_ret ?_
            refine thenE_r ?_
            refine ret1 rfl rfl ?_
            first | (exact ⟨rfl, hE⟩) | (exact (bneE hg51 (hr37.det1 hr27)).elim) | (exact absurd (hr37.det1 hr27) hp51) | (exact absurd (hr37.det1 hr27) (of_decide_eq_false hg51)) | (exact (bneE hg51 (hr37.det2 hr27)).elim) | (exact absurd (hr37.det2 hr27) hp51) | (exact absurd (hr37.det2 hr27) (of_decide_eq_false hg51)) | (exact (bneE hg51 (hr37.det3 hr27)).elim) | (exact absurd (hr37.det3 hr27) hp51) | (exact absurd (hr37.det3 hr27) (of_decide_eq_false hg51)) | (exact (tfX hg51).elim) | (exact (decF hg51).elim) | (exfalso; omega)
          · have hg51 := not_false hg52
            refine W_skip ?_
            refine thenE_n ?_
            refine W_seq ?_
            refine W_seq ?_
            refine W_drawE [(0, true), (1, true), (2, false), (3, false), (4, true)] mixed (by kernel_rfl) rfl (by kernel_rfl) ?_
            intro wd16 hEd16 hzd16
            replace hE := hE.trans hEd16
            replace hm := hm.ext hEd16
            replace hA := hA.ext hEd16
            replace hB2 := hB2.ext hEd16
            replace hB3 := hB3.ext hEd16
            replace hF24 := hF24.ext hEd16
            replace hM24 := hM24.ext hEd16
            replace hF26 := hF26.ext hEd16
            replace hN26 := hN26.ext hEd16
            replace hF31 := hF31.ext hEd16
            replace hM31 := hM31.ext hEd16
            replace hB8 := hB8.ext hEd16
            replace hF33 := hF33.ext hEd16
            replace hN33 := hN33.ext hEd16
            replace hB9 := hB9.ext hEd16
            replace hF50 := hF50.ext hEd16
            replace hM50 := hM50.ext hEd16
            have hDd16 := Ext.refl wd16
            refine PW_q rfl rfl (fun wq hq => ev_loads st40 sz40 rfl (cellsB (hq.blk hB9)) rfl) ?_
            refine PW_q rfl rfl (fun wq hq => ev_loads st29 sz29 rfl (cellsB (hq.blk hB3)) rfl) ?_
            refine PW_m rfl rfl (ev_call rfl (toNetwork_spec _ A _ hA (by omega) (by omega))) ?_
            rintro _ w55 ⟨h55, rfl, hF55, hE55⟩
            have hz55 := hE55.size
            replace hE := hE.trans hE55
            replace hDd16 := hDd16.trans hE55
            have hN55 := hF55.is
            refine ⟨hDd16, ?_⟩
            have hm_3 := hm.ext hDd16
            have hA_3 := hA.ext hDd16
            have hB2_3 := hB2.ext hDd16
            have hB3_3 := hB3.ext hDd16
            have hF24_3 := hF24.ext hDd16
            have hM24_3 := hM24.ext hDd16
            have hF26_3 := hF26.ext hDd16
            have hN26_3 := hN26.ext hDd16
            have hF31_3 := hF31.ext hDd16
            have hM31_3 := hM31.ext hDd16
            have hB8_3 := hB8.ext hDd16
            have hF33_3 := hF33.ext hDd16
            have hN33_3 := hN33.ext hDd16
            have hB9_3 := hB9.ext hDd16
            have hF50_3 := hF50.ext hDd16
            have hM50_3 := hM50.ext hDd16
            refine PW_m rfl rfl (ev_call rfl (eqNetwork_spec _ _ A _ hN33_3 hN55 (by omega))) ?_
            rintro _ w56 ⟨rfl, hE56⟩
            have hz56 := hE56.size
            replace hE := hE.trans hE56
            replace hDd16 := hDd16.trans hE56
            replace hF55 := hF55.ext hE56
            replace hN55 := hN55.ext hE56
            refine ⟨hDd16, ?_⟩
            refine PW_q rfl rfl (fun wq hq => ev_not rfl) ?_
            replace hm := hm.ext hDd16
            replace hA := hA.ext hDd16
            replace hB2 := hB2.ext hDd16
            replace hB3 := hB3.ext hDd16
            replace hF24 := hF24.ext hDd16
            replace hM24 := hM24.ext hDd16
            replace hF26 := hF26.ext hDd16
            replace hN26 := hN26.ext hDd16
            replace hF31 := hF31.ext hDd16
            replace hM31 := hM31.ext hDd16
            replace hB8 := hB8.ext hDd16
            replace hF33 := hF33.ext hDd16
            replace hN33 := hN33.ext hDd16
            replace hB9 := hB9.ext hDd16
            replace hF50 := hF50.ext hDd16
            replace hM50 := hM50.ext hDd16
            refine PW_nil ?_
            refine thenE_n ?_
            refine W_cond rfl (fun hg57 => ?_) (fun hg57 => ?_)
            · have hg56 := not_true hg57
              refine W_seq ?_
              refine W_region ?_
              refine WL_q rfl (ev_assign rfl) ?_
              refine WL_nil ?_
              refine thenE_n ?_
              refine W_ret ?_
              refine thenE_r ?_
              refine ret1 rfl rfl ?_
              first | (exact ⟨rfl, hE⟩) | (exact (bneE hg56 (hr37.det1 hr27)).elim) | (exact absurd (hr37.det1 hr27) hp56) | (exact absurd (hr37.det1 hr27) (of_decide_eq_false hg56)) | (exact (bneE hg56 (hr37.det2 hr27)).elim) | (exact absurd (hr37.det2 hr27) hp56) | (exact absurd (hr37.det2 hr27) (of_decide_eq_false hg56)) | (exact (bneE hg56 (hr37.det3 hr27)).elim) | (exact absurd (hr37.det3 hr27) hp56) | (exact absurd (hr37.det3 hr27) (of_decide_eq_false hg56)) | (exact (tfX hg56).elim) | (exact (decF hg56).elim) | (exfalso; omega)
            · have hg56 := not_false hg57
              refine W_skip ?_
              refine thenE_n ?_
              refine W_seq ?_
              refine W_region ?_
              refine WL_q rfl (ev_assign rfl) ?_
              refine WL_nil ?_
              refine thenE_n ?_
              refine W_ret ?_
              refine ret1 rfl rfl ?_
              first | (exact ⟨rfl, hE⟩) | (exact (bneE hg56 (hr37.det1 hr27)).elim) | (exact absurd (hr37.det1 hr27) hp56) | (exact absurd (hr37.det1 hr27) (of_decide_eq_false hg56)) | (exact (bneE hg56 (hr37.det2 hr27)).elim) | (exact absurd (hr37.det2 hr27) hp56) | (exact absurd (hr37.det2 hr27) (of_decide_eq_false hg56)) | (exact (bneE hg56 (hr37.det3 hr27)).elim) | (exact absurd (hr37.det3 hr27) hp56) | (exact absurd (hr37.det3 hr27) (of_decide_eq_false hg56)) | (exact (tfX hg56).elim) | (exact (decF hg56).elim) | (exfalso; omega)

def st0 (m : Mach) (A : Net) (v : Nat) : Int := (m.start.getD (A.ends.getD v []).length []).getD (A.inputs.getD v 0).toNat 0
/-- The states at the start. -/
def stS (m : Mach) (A : Net) : List Int := (List.range A.ends.length).map (st0 m A)
theorem stS_len (m : Mach) (A : Net) : (stS m A).length = A.ends.length := by simp [stS]
theorem stS_at {m : Mach} {A : Net} {v : Nat} (hv : v < A.ends.length) {h1 : A.ends[v].length < m.start.length} {h2 : v < A.inputs.length} {h3 : A.inputs[v].toNat < (m.start[A.ends[v].length]).length} {h : v < (stS m A).length} : (stS m A)[v] = (m.start[A.ends[v].length])[A.inputs[v].toNat] := by
  simp only [stS, List.getElem_map, List.getElem_range, st0]
  rw [getD_eq hv, getD_eq h2, getD_eq h1, getD_eq h3]
/-- A state for each node. -/
def SOk (m : Mach) (A : Net) (S : List Int) : Prop := (S.length : Int) = A.ends.length ∧ allR S 0 (m.states - 1) = true
theorem Fits.inp {m : Mach} {A : Net} (h : Fits m A) {v : Nat} (hv : v < A.ends.length) {h2 : v < A.inputs.length} {h1 : A.ends[v].length < m.start.length} : 0 ≤ A.inputs[v] ∧ A.inputs[v].toNat < (m.start[A.ends[v].length]).length := by
  have h3 := allR_true.1 h.2.1.inputs _ (List.getElem_mem h2)
  have h4 := h.2.2.2 v h2
  have h5 := (h.1.start _ (List.getElem_mem h1)).1
  omega
theorem Fits.degAt {m : Mach} {A : Net} (h : Fits m A) {v : Nat} (hv : v < A.ends.length) : A.ends[v].length < m.start.length := by
  have h1 := h.2.2.1 v hv
  have h2 := h.1.startLen
  omega
theorem stS_ok {m : Mach} {A : Net} (h : Fits m A) : SOk m A (stS m A) := by
  refine ⟨by rw [stS_len], allR_true.2 fun x hx => ?_⟩
  obtain ⟨v, hv, rfl⟩ := List.mem_iff_getElem.1 hx
  rw [stS_len] at hv
  have hin := h.2.1.inLen
  have h1 := h.degAt hv
  have h3 := h.inp hv (h2 := by omega) (h1 := h1)
  rw [stS_at hv (h1 := h1) (h2 := by omega) (h3 := h3.2)]
  exact allR_true.1 (h.1.start _ (List.getElem_mem h1)).2 _ (List.getElem_mem h3.2)

set_option maxRecDepth 100000 in
theorem maStart_spec {lom him : Nat} (nm : MA) (m : Mach) {loA hiA : Nat} (nA : NA) (A : Net) (w : World) (hm : IsMach lom him w nm m) (hhim : him ≤ w.heap.size) (hnm : totM m ≤ 1048576) (hA : IsNet loA hiA w nA A) (hhiA : hiA ≤ w.heap.size) (hnA : totN A ≤ 1048576) (hf : Fits m A) :
    Fn Try.prog 61 #[machV nm m, netV nA A] w (fun r w' => ∃ a' c', r = .slice a' (stS m A).length c' ∧ Own w.heap.size w' 3 1 a' (stS m A).length c' ((stS m A).map VI) ∧ Ext w w') := by
  have hmm : totL m.start + totL m.send + totC m.clauses + m.output.length ≤ 1048576 := hnm
  have hqA := totL_len A.ends
  have hmA : totL A.ends + A.ids.length + A.inputs.length ≤ 1048576 := hnA
  have hin := hf.2.1.inLen
  have hnd := hf.2.1.nodes
  have hsl := stS_len m A
  have hE := Ext.refl w
  refine Fn_of Try.func61 rfl rfl (by kernel_rfl) rfl ?_
  refine W_seq ?_
  refine W_region ?_
  refine WL_m rfl (ev_box rfl) ?_
  rintro _ w2 ⟨rfl, hN2⟩
  have hz2 := hN2.size
  replace hE := hE.trans hN2.ext
  replace hm := hm.ext hN2.ext
  replace hA := hA.ext hN2.ext
  have hB2 : Blk w2 _ _ [_, _, _, _, _, _, _] := hN2.blk
  refine WL_m rfl (ev_box rfl) ?_
  rintro _ w3 ⟨rfl, hN3⟩
  have hz3 := hN3.size
  replace hE := hE.trans hN3.ext
  replace hm := hm.ext hN3.ext
  replace hA := hA.ext hN3.ext
  replace hB2 := hB2.ext hN3.ext
  have hB3 : Blk w3 _ _ [_, _, _] := hN3.blk
  refine WL_q rfl (ev_assign rfl) ?_
  refine WL_nil ?_
  refine thenE_n ?_
  refine W_seq ?_
  refine W_region ?_
  refine WL_q rfl (ev_assign rfl) ?_
  refine WL_nil ?_
  refine thenE_n ?_
  refine W_seq ?_
  refine W_seq ?_
  refine W_region ?_
  refine WL_q rfl (ev_fieldAddr fo40_0 rfl) ?_
  refine WL_q rfl (ev_load one38 rfl (hB3.cell rfl)) ?_
  refine WL_q rfl (ev_len Try.underlying38 rfl) ?_
  refine WL_q rfl (ev_move rfl) ?_
  refine WL_nil ?_
  refine thenE_n ?_
  refine W_block ?_
  refine W_loopC (G := Nat × Option Addr × Nat) [(2, _), (3, _), (9, _), (10, _)] ((Subs.c rfl (Subs.c rfl (Subs.c rfl (Subs.c rfl Subs.n))))) (fun ⟨i, a, c⟩ => [(5, .slice a i c), (11, VI (i : Int))]) (fun ⟨i, a, c⟩ w' => Ext w3 w' ∧ i ≤ A.ends.length ∧ OwnH w3.heap.size w'.heap.size 0 0 w' 3 1 a i c (((stS m A).take i).map VI)) (fun g => A.ends.length - g.1) (0, none, 0) ((Subs.c rfl (Subs.c (lkI rfl (by omega)) Subs.n))) (⟨Ext.refl _, ⟨by omega, OwnH.nil⟩⟩) ?_
  rintro ⟨i, a, c⟩ wL0 ⟨hRL0, hi', hO⟩
  have hzL0 := hRL0.size
  replace hE := hE.trans hRL0
  replace hm := hm.ext hRL0
  replace hA := hA.ext hRL0
  replace hB2 := hB2.ext hRL0
  replace hB3 := hB3.ext hRL0
  refine W_seq ?_
  refine W_region ?_
  refine WL_q rfl (ev_lss rfl rfl) ?_
  refine WL_nil ?_
  refine thenE_n ?_
  refine W_seq ?_
  refine W_cond rfl (fun hg12 => ?_) (fun hg12 => ?_)
  · have hp12 := of_decide_eq_true hg12
    refine W_skip ?_
    refine thenE_n ?_
    refine W_seq ?_
    refine W_block ?_
    refine W_seq ?_
    refine W_region ?_
    refine WL_q rfl (ev_move rfl) ?_
    have hlt : i < A.ends.length := by omega
    have hdl := hf.degAt hlt
    have hii := hf.inp hlt (h2 := by omega) (h1 := hdl)
    have hi1 := hii.1
    have hi2 := hii.2
    have hl14 : i < A.ends.length := by omega
    have ht14 := totL_le hl14
    obtain ⟨a14, c14, hc14, hr14⟩ := hA.ends.row hl14
    refine WL_q rfl (ev_indexAddr Try.underlying38 sz103 rfl rfl (hA.ends.isSome (by omega)) (by omega) (by omega)) ?_
    refine WL_q rfl (ev_load one103 rfl (hc14)) ?_
    refine WL_q rfl (ev_assign rfl) ?_
    refine WL_q rfl (ev_assign rfl) ?_
    refine WL_nil ?_
    refine thenE_n ?_
    refine W_drawR w3.heap.size wL0.heap.size 0 0 (fun w' => True) [(0, true), (1, true), (2, true), (3, true), (4, true), (5, true), (6, true), (7, true), (8, true), (9, true), (10, true), (11, true), (12, true), (13, true), (14, false), (15, false), (16, true)] mixed (by kernel_rfl) rfl (by kernel_rfl) (fun _ _ => trivial) ?_
    intro wd5 hEd5 hzd5
    replace hE := hE.trans hEd5
    replace hRL0 := hRL0.trans hEd5
    replace hm := hm.ext hEd5
    replace hA := hA.ext hEd5
    replace hB2 := hB2.ext hEd5
    replace hB3 := hB3.ext hEd5
    replace hO := hO.ext hEd5
    replace hr14 := hr14.ext hEd5
    have hDd5 := (Rg.refl : Rg w3.heap.size wL0.heap.size 0 0 wd5 wd5)
    refine PW_q rfl rfl (fun wq hq => ev_move rfl) ?_
    refine PW_q rfl rfl (fun wq hq => ev_fieldAddr fo36_3 rfl) ?_
    refine PW_q rfl rfl (fun wq hq => ev_load one22 rfl ((hB2.rg hq.1 (by omega)).cell rfl)) ?_
    refine PW_q rfl rfl (fun wq hq => ev_move rfl) ?_
    refine PW_q rfl rfl (fun wq hq => ev_len Try.underlying103 rfl) ?_
    have hl21 : A.ends[i].length < m.start.length := by omega
    have ht21 := totL_le hl21
    obtain ⟨a21, c21, hc21, hr21⟩ := hm.start.row hl21
    refine PW_q rfl rfl (fun wq hq => ev_indexAddr Try.underlying22 sz24 rfl rfl (hm.start.isSome (by omega)) (by omega) (by omega)) ?_
    refine PW_q rfl rfl (fun wq hq => ev_load one24 rfl (hq.1.cell' hc21 (by have := hm.start.rng (Nat.lt_of_le_of_lt (Nat.zero_le _) hl21); omega))) ?_
    refine PW_q rfl rfl (fun wq hq => ev_fieldAddr fo40_2 rfl) ?_
    refine PW_q rfl rfl (fun wq hq => ev_load one24 rfl ((hB3.rg hq.1 (by omega)).cell rfl)) ?_
    refine PW_q rfl rfl (fun wq hq => ev_move rfl) ?_
    refine PW_q rfl rfl (fun wq hq => ev_indexAddr Try.underlying24 sz3 rfl rfl (hA.inputs.isSome (by omega)) (by omega) (by omega)) ?_
    refine PW_q rfl rfl (fun wq hq => ev_load one3 rfl ((hA.inputs.rg hq.1 (by omega)).cellJ (i := i) (j := Int.toNat ((i : Nat) : Int)) (by omega) (by omega))) ?_
    refine PW_q rfl rfl (fun wq hq => ev_indexAddr Try.underlying24 sz3 rfl rfl (hr21.isSome (by omega)) (by omega) (by omega)) ?_
    refine PW_q rfl rfl (fun wq hq => ev_load one3 rfl ((hr21.rg hq.1 (by omega)).cellJ (i := A.inputs[i].toNat) (j := A.inputs[i].toNat) (by omega) (by omega))) ?_
    refine PW_m rfl rfl (ev_lit1 Try.underlying24 el3 (by decide) (by decide) rfl rfl) ?_
    rintro _ w30 ⟨rfl, hN30⟩
    have hz30 := hN30.size
    replace hE := hE.trans hN30.ext
    replace hRL0 := hRL0.trans hN30.ext
    replace hDd5 := hDd5.trans hN30.ext
    replace hO := hO.ext hN30.ext
    have hB30 := hN30.blk
    refine ⟨⟨hDd5, trivial⟩, ?_⟩
    have hm_15 := hm.rg hDd5 (by omega)
    have hA_15 := hA.rg hDd5 (by omega)
    have hB2_15 := hB2.rg hDd5 (by omega)
    have hB3_15 := hB3.rg hDd5 (by omega)
    have hr14_15 := hr14.rg hDd5 (by omega)
    have hr21_15 := hr21.rg hDd5 (by omega)
    refine PW_m rfl rfl (ev_appendT Try.underlying24 el3 rfl (by decide) rfl rfl hO (SAt.of_blk (cs := [_]) (ds := []) hB30) rfl (by simp [Value.oneCell']) (by omega) (by unfold maxLen; omega) (by omega)) ?_
    rintro _ w31 ⟨a31, c31, rfl, hO31, hK31, hQ31⟩
    have hz31 := hK31.size
    replace hE := hE.rg hK31 (by omega)
    replace hRL0 := hRL0.rg hK31 (by omega)
    replace hDd5 := hDd5.rg hK31 (by omega)
    replace hB30 := hB30.rg hK31 (by omega)
    replace hO := hO31
    replace hO := ownt_snocI hO
    refine ⟨⟨hDd5, trivial⟩, ?_⟩
    refine PW_q rfl rfl (fun wq hq => ev_assign rfl) ?_
    replace hm := hm.rg hDd5 (by omega)
    replace hA := hA.rg hDd5 (by omega)
    replace hB2 := hB2.rg hDd5 (by omega)
    replace hB3 := hB3.rg hDd5 (by omega)
    replace hr14 := hr14.rg hDd5 (by omega)
    replace hr21 := hr21.rg hDd5 (by omega)
    refine PW_nil ?_
    refine blockE_n ?_
    refine thenE_n ?_
    refine W_region ?_
    refine WL_q rfl (ev_add rfl rfl (by omega)) ?_
    refine WL_q rfl (ev_move rfl) ?_
    refine WL_nil ?_
    refine thenE_n ?_
    exact ⟨(i + 1, a31, c31), (Subs.c rfl (Subs.c rfl (Subs.c rfl (Subs.c rfl Subs.n)))), (Subs.c rfl (Subs.c (lkI rfl (by omega)) Subs.n)), ⟨hRL0, ⟨by omega, (ownt_take hO (by omega) (stS_at hlt (h1 := hdl) (h2 := by omega) (h3 := hii.2))).up (Nat.le_refl _) (by omega)⟩⟩, by first | omega | (dsimp only; omega)⟩
  · have hp12 := of_decide_eq_false hg12
    refine W_exit ?_
    refine thenE_x ?_
    refine thenE_x ?_
    refine blockE_hit ?_
    refine thenE_n ?_
    refine W_seq ?_
    refine W_region ?_
    refine WL_q rfl (ev_move rfl) ?_
    refine WL_q rfl (ev_assign rfl) ?_
    refine WL_nil ?_
    refine thenE_n ?_
    refine W_ret ?_
    refine ret1 rfl rfl ?_
    have hi9 : i = (stS m A).length := by omega
    subst hi9
    exact ⟨_, _, rfl, by rw [List.take_length] at hO; exact hO.1.mono (by omega), hE⟩

set_option maxRecDepth 100000 in
theorem startStates_spec {lom him : Nat} (nm : MA) (m : Mach) {loA hiA : Nat} (nA : NA) (A : Net) (w : World) (hm : IsMach lom him w nm m) (hhim : him ≤ w.heap.size) (hnm : totM m ≤ 1048576) (hA : IsNet loA hiA w nA A) (hhiA : hiA ≤ w.heap.size) (hnA : totN A ≤ 1048576) (hf : Fits m A) :
    Fn Try.prog 63 #[machV nm m, netV nA A] w (fun r w' => ∃ a' c', r = .slice a' (stS m A).length c' ∧ Own w.heap.size w' 3 1 a' (stS m A).length c' ((stS m A).map VI) ∧ Ext w w') := by
  have hmm : totL m.start + totL m.send + totC m.clauses + m.output.length ≤ 1048576 := hnm
  have hqA := totL_len A.ends
  have hmA : totL A.ends + A.ids.length + A.inputs.length ≤ 1048576 := hnA
  have hin := hf.2.1.inLen
  have hnd := hf.2.1.nodes
  have hsl := stS_len m A
  have hE := Ext.refl w
  refine Fn_of Try.func63 rfl rfl (by kernel_rfl) rfl ?_
  refine W_seq ?_
  refine W_region ?_
  refine WL_m rfl (ev_box rfl) ?_
  rintro _ w2 ⟨rfl, hN2⟩
  have hz2 := hN2.size
  replace hE := hE.trans hN2.ext
  replace hm := hm.ext hN2.ext
  replace hA := hA.ext hN2.ext
  have hB2 : Blk w2 _ _ [_, _, _, _, _, _, _] := hN2.blk
  refine WL_m rfl (ev_box rfl) ?_
  rintro _ w3 ⟨rfl, hN3⟩
  have hz3 := hN3.size
  replace hE := hE.trans hN3.ext
  replace hm := hm.ext hN3.ext
  replace hA := hA.ext hN3.ext
  replace hB2 := hB2.ext hN3.ext
  have hB3 : Blk w3 _ _ [_, _, _] := hN3.blk
  refine WL_q rfl (ev_assign rfl) ?_
  refine WL_nil ?_
  refine thenE_n ?_
  refine W_seq ?_
  refine W_region ?_
  refine WL_q rfl (ev_assign rfl) ?_
  refine WL_nil ?_
  refine thenE_n ?_
  refine W_seq ?_
  refine W_seq ?_
  refine W_region ?_
  refine WL_q rfl (ev_fieldAddr fo40_0 rfl) ?_
  refine WL_q rfl (ev_load one38 rfl (hB3.cell rfl)) ?_
  refine WL_q rfl (ev_len Try.underlying38 rfl) ?_
  refine WL_q rfl (ev_move rfl) ?_
  refine WL_nil ?_
  refine thenE_n ?_
  refine W_block ?_
  refine W_loopC (G := Nat × Option Addr × Nat) [(2, _), (3, _), (9, _), (10, _)] ((Subs.c rfl (Subs.c rfl (Subs.c rfl (Subs.c rfl Subs.n))))) (fun ⟨i, a, c⟩ => [(5, .slice a i c), (11, VI (i : Int))]) (fun ⟨i, a, c⟩ w' => Ext w3 w' ∧ i ≤ A.ends.length ∧ OwnH w3.heap.size w'.heap.size 0 0 w' 3 1 a i c (((stS m A).take i).map VI)) (fun g => A.ends.length - g.1) (0, none, 0) ((Subs.c rfl (Subs.c (lkI rfl (by omega)) Subs.n))) (⟨Ext.refl _, ⟨by omega, OwnH.nil⟩⟩) ?_
  rintro ⟨i, a, c⟩ wL0 ⟨hRL0, hi', hO⟩
  have hzL0 := hRL0.size
  replace hE := hE.trans hRL0
  replace hm := hm.ext hRL0
  replace hA := hA.ext hRL0
  replace hB2 := hB2.ext hRL0
  replace hB3 := hB3.ext hRL0
  refine W_seq ?_
  refine W_region ?_
  refine WL_q rfl (ev_lss rfl rfl) ?_
  refine WL_nil ?_
  refine thenE_n ?_
  refine W_seq ?_
  refine W_cond rfl (fun hg12 => ?_) (fun hg12 => ?_)
  · have hp12 := of_decide_eq_true hg12
    refine W_skip ?_
    refine thenE_n ?_
    refine W_seq ?_
    refine W_block ?_
    refine W_seq ?_
    refine W_region ?_
    refine WL_q rfl (ev_move rfl) ?_
    have hlt : i < A.ends.length := by omega
    have hdl := hf.degAt hlt
    have hii := hf.inp hlt (h2 := by omega) (h1 := hdl)
    have hi1 := hii.1
    have hi2 := hii.2
    have hl14 : i < A.ends.length := by omega
    have ht14 := totL_le hl14
    obtain ⟨a14, c14, hc14, hr14⟩ := hA.ends.row hl14
    refine WL_q rfl (ev_indexAddr Try.underlying38 sz103 rfl rfl (hA.ends.isSome (by omega)) (by omega) (by omega)) ?_
    refine WL_q rfl (ev_load one103 rfl (hc14)) ?_
    refine WL_q rfl (ev_assign rfl) ?_
    refine WL_q rfl (ev_assign rfl) ?_
    refine WL_nil ?_
    refine thenE_n ?_
    refine W_drawR w3.heap.size wL0.heap.size 0 0 (fun w' => True) [(0, true), (1, true), (2, true), (3, true), (4, true), (5, true), (6, true), (7, true), (8, true), (9, true), (10, true), (11, true), (12, true), (13, true), (14, false), (15, false), (16, true)] mixed (by kernel_rfl) rfl (by kernel_rfl) (fun _ _ => trivial) ?_
    intro wd5 hEd5 hzd5
    replace hE := hE.trans hEd5
    replace hRL0 := hRL0.trans hEd5
    replace hm := hm.ext hEd5
    replace hA := hA.ext hEd5
    replace hB2 := hB2.ext hEd5
    replace hB3 := hB3.ext hEd5
    replace hO := hO.ext hEd5
    replace hr14 := hr14.ext hEd5
    have hDd5 := (Rg.refl : Rg w3.heap.size wL0.heap.size 0 0 wd5 wd5)
    refine PW_q rfl rfl (fun wq hq => ev_move rfl) ?_
    refine PW_q rfl rfl (fun wq hq => ev_fieldAddr fo36_3 rfl) ?_
    refine PW_q rfl rfl (fun wq hq => ev_load one22 rfl ((hB2.rg hq.1 (by omega)).cell rfl)) ?_
    refine PW_q rfl rfl (fun wq hq => ev_move rfl) ?_
    refine PW_q rfl rfl (fun wq hq => ev_len Try.underlying103 rfl) ?_
    have hl21 : A.ends[i].length < m.start.length := by omega
    have ht21 := totL_le hl21
    obtain ⟨a21, c21, hc21, hr21⟩ := hm.start.row hl21
    refine PW_q rfl rfl (fun wq hq => ev_indexAddr Try.underlying22 sz24 rfl rfl (hm.start.isSome (by omega)) (by omega) (by omega)) ?_
    refine PW_q rfl rfl (fun wq hq => ev_load one24 rfl (hq.1.cell' hc21 (by have := hm.start.rng (Nat.lt_of_le_of_lt (Nat.zero_le _) hl21); omega))) ?_
    refine PW_q rfl rfl (fun wq hq => ev_fieldAddr fo40_2 rfl) ?_
    refine PW_q rfl rfl (fun wq hq => ev_load one24 rfl ((hB3.rg hq.1 (by omega)).cell rfl)) ?_
    refine PW_q rfl rfl (fun wq hq => ev_move rfl) ?_
    refine PW_q rfl rfl (fun wq hq => ev_indexAddr Try.underlying24 sz3 rfl rfl (hA.inputs.isSome (by omega)) (by omega) (by omega)) ?_
    refine PW_q rfl rfl (fun wq hq => ev_load one3 rfl ((hA.inputs.rg hq.1 (by omega)).cellJ (i := i) (j := Int.toNat ((i : Nat) : Int)) (by omega) (by omega))) ?_
    refine PW_q rfl rfl (fun wq hq => ev_indexAddr Try.underlying24 sz3 rfl rfl (hr21.isSome (by omega)) (by omega) (by omega)) ?_
    refine PW_q rfl rfl (fun wq hq => ev_load one3 rfl ((hr21.rg hq.1 (by omega)).cellJ (i := A.inputs[i].toNat) (j := A.inputs[i].toNat) (by omega) (by omega))) ?_
    refine PW_m rfl rfl (ev_lit1 Try.underlying24 el3 (by decide) (by decide) rfl rfl) ?_
    rintro _ w30 ⟨rfl, hN30⟩
    have hz30 := hN30.size
    replace hE := hE.trans hN30.ext
    replace hRL0 := hRL0.trans hN30.ext
    replace hDd5 := hDd5.trans hN30.ext
    replace hO := hO.ext hN30.ext
    have hB30 := hN30.blk
    refine ⟨⟨hDd5, trivial⟩, ?_⟩
    have hm_15 := hm.rg hDd5 (by omega)
    have hA_15 := hA.rg hDd5 (by omega)
    have hB2_15 := hB2.rg hDd5 (by omega)
    have hB3_15 := hB3.rg hDd5 (by omega)
    have hr14_15 := hr14.rg hDd5 (by omega)
    have hr21_15 := hr21.rg hDd5 (by omega)
    refine PW_m rfl rfl (ev_appendT Try.underlying24 el3 rfl (by decide) rfl rfl hO (SAt.of_blk (cs := [_]) (ds := []) hB30) rfl (by simp [Value.oneCell']) (by omega) (by unfold maxLen; omega) (by omega)) ?_
    rintro _ w31 ⟨a31, c31, rfl, hO31, hK31, hQ31⟩
    have hz31 := hK31.size
    replace hE := hE.rg hK31 (by omega)
    replace hRL0 := hRL0.rg hK31 (by omega)
    replace hDd5 := hDd5.rg hK31 (by omega)
    replace hB30 := hB30.rg hK31 (by omega)
    replace hO := hO31
    replace hO := ownt_snocI hO
    refine ⟨⟨hDd5, trivial⟩, ?_⟩
    refine PW_q rfl rfl (fun wq hq => ev_assign rfl) ?_
    replace hm := hm.rg hDd5 (by omega)
    replace hA := hA.rg hDd5 (by omega)
    replace hB2 := hB2.rg hDd5 (by omega)
    replace hB3 := hB3.rg hDd5 (by omega)
    replace hr14 := hr14.rg hDd5 (by omega)
    replace hr21 := hr21.rg hDd5 (by omega)
    refine PW_nil ?_
    refine blockE_n ?_
    refine thenE_n ?_
    refine W_region ?_
    refine WL_q rfl (ev_add rfl rfl (by omega)) ?_
    refine WL_q rfl (ev_move rfl) ?_
    refine WL_nil ?_
    refine thenE_n ?_
    exact ⟨(i + 1, a31, c31), (Subs.c rfl (Subs.c rfl (Subs.c rfl (Subs.c rfl Subs.n)))), (Subs.c rfl (Subs.c (lkI rfl (by omega)) Subs.n)), ⟨hRL0, ⟨by omega, (ownt_take hO (by omega) (stS_at hlt (h1 := hdl) (h2 := by omega) (h3 := hii.2))).up (Nat.le_refl _) (by omega)⟩⟩, by first | omega | (dsimp only; omega)⟩
  · have hp12 := of_decide_eq_false hg12
    refine W_exit ?_
    refine thenE_x ?_
    refine thenE_x ?_
    refine blockE_hit ?_
    refine thenE_n ?_
    refine W_seq ?_
    refine W_region ?_
    refine WL_q rfl (ev_move rfl) ?_
    refine WL_q rfl (ev_assign rfl) ?_
    refine WL_nil ?_
    refine thenE_n ?_
    refine W_ret ?_
    refine ret1 rfl rfl ?_
    have hi9 : i = (stS m A).length := by omega
    subst hi9
    exact ⟨_, _, rfl, by rw [List.take_length] at hO; exact hO.1.mono (by omega), hE⟩

set_option maxRecDepth 100000 in
theorem StartStates_spec {lom him : Nat} (nm : MA) (m : Mach) {loA hiA : Nat} (nA : NA) (A : Net) (w : World) (hm : IsMach lom him w nm m) (hhim : him ≤ w.heap.size) (hnm : totM m ≤ 1048576) (hA : IsNet loA hiA w nA A) (hhiA : hiA ≤ w.heap.size) (hnA : totN A ≤ 1048576) :
    Fn Try.prog 21 #[machV nm m, netV nA A] w (fun o9 w' => ∃ a' c' ys q, o9 = .tuple #[.slice a' ys.length c', VB q] ∧ RV [] (opt (Fits m A) (stS m A)) ys q ∧ OwnH w.heap.size w'.heap.size 0 0 w' 3 1 a' ys.length c' (ys.map VI) ∧ ys.length ≤ 1048576 ∧ Ext w w') := by
  have hmm : totL m.start + totL m.send + totC m.clauses + m.output.length ≤ 1048576 := hnm
  have hqA := totL_len A.ends
  have hmA : totL A.ends + A.ids.length + A.inputs.length ≤ 1048576 := hnA
  have hsl := stS_len m A
  have hE := Ext.refl w
  refine Fn_of Try.func21 rfl rfl (by kernel_rfl) rfl ?_
  refine W_seq ?_
  refine W_region ?_
  refine WL_m rfl (ev_box rfl) ?_
  rintro _ w2 ⟨rfl, hN2⟩
  have hz2 := hN2.size
  replace hE := hE.trans hN2.ext
  replace hm := hm.ext hN2.ext
  replace hA := hA.ext hN2.ext
  have hB2 : Blk w2 _ _ [_, _, _, _, _, _, _] := hN2.blk
  refine WL_m rfl (ev_box rfl) ?_
  rintro _ w3 ⟨rfl, hN3⟩
  have hz3 := hN3.size
  replace hE := hE.trans hN3.ext
  replace hm := hm.ext hN3.ext
  replace hA := hA.ext hN3.ext
  replace hB2 := hB2.ext hN3.ext
  have hB3 : Blk w3 _ _ [_, _, _] := hN3.blk
  refine WL_q rfl (ev_assign rfl) ?_
  refine WL_q rfl (ev_assign rfl) ?_
  refine WL_nil ?_
  refine thenE_n ?_
  refine W_seq ?_
  refine W_seq ?_
  refine W_region ?_
  refine WL_q rfl (ev_loads st36 sz36 rfl (cellsB hB2) rfl) ?_
  refine WL_q rfl (ev_loads st40 sz40 rfl (cellsB hB3) rfl) ?_
  refine WL_m rfl (ev_call rfl (fits_spec _ m _ A _ hm (by omega) (by omega) hA (by omega) (by omega))) ?_
  rintro _ w8 ⟨b8, rfl, hb8, hE8⟩
  have hz8 := hE8.size
  replace hE := hE.trans hE8
  replace hm := hm.ext hE8
  replace hA := hA.ext hE8
  replace hB2 := hB2.ext hE8
  replace hB3 := hB3.ext hE8
  refine WL_q rfl (ev_not rfl) ?_
  refine WL_nil ?_
  refine thenE_n ?_
  refine W_cond rfl (fun hg9 => ?_) (fun hg9 => ?_)
  · have hg8 := not_true hg9
    have hp8 := ttN hb8 hg8
    refine W_seq ?_
    refine W_region ?_
    refine WL_q rfl (ev_assign rfl) ?_
    refine WL_q rfl (ev_assign rfl) ?_
    refine WL_nil ?_
    refine thenE_n ?_
    refine W_ret ?_
    refine thenE_r ?_
    refine ret2 rfl rfl rfl ?_
    first | (exact ⟨none, 0, [], _, rfl, .no hp8, OwnH.nil, by simp, hE⟩) | (exact ⟨_, _, _, _, rfl, .yes hp8 rfl, hO12.h.up (by omega) (Nat.le_refl _), by omega, hE⟩)
  · have hg8 := not_false hg9
    have hp8 := hb8.1 hg8
    refine W_skip ?_
    refine thenE_n ?_
    refine W_seq ?_
    refine W_region ?_
    refine WL_q rfl (ev_loads st36 sz36 rfl (cellsB hB2) rfl) ?_
    refine WL_q rfl (ev_loads st40 sz40 rfl (cellsB hB3) rfl) ?_
    refine WL_m rfl (ev_call rfl (startStates_spec _ m _ A _ hm (by omega) (by omega) hA (by omega) (by omega) (by assumption))) ?_
    rintro _ w12 ⟨a12, c12, rfl, hO12, hE12⟩
    have hz12 := hE12.size
    replace hE := hE.trans hE12
    replace hm := hm.ext hE12
    replace hA := hA.ext hE12
    replace hB2 := hB2.ext hE12
    replace hB3 := hB3.ext hE12
    refine WL_q rfl (ev_assign rfl) ?_
    refine WL_q rfl (ev_assign rfl) ?_
    refine WL_nil ?_
    refine thenE_n ?_
    refine W_ret ?_
    refine ret2 rfl rfl rfl ?_
    first | (exact ⟨none, 0, [], _, rfl, .no hp8, OwnH.nil, by simp, hE⟩) | (exact ⟨_, _, _, _, rfl, .yes hp8 rfl, hO12.h.up (by omega) (Nat.le_refl _), by omega, hE⟩)

set_option maxRecDepth 100000 in
theorem sStartStates_spec {lom him : Nat} (nm : MA) (m : Mach) {loA hiA : Nat} (nA : NA) (A : Net) (w : World) (hm : IsMach lom him w nm m) (hhim : him ≤ w.heap.size) (hnm : totM m ≤ 1048576) (hA : IsNet loA hiA w nA A) (hhiA : hiA ≤ w.heap.size) (hnA : totN A ≤ 1048576) :
    Fn Try.prog 20 #[machV nm m, netV nA A] w (fun o9 w' => ∃ a' c' ys q, o9 = .tuple #[.slice a' ys.length c', VB q] ∧ RV [] (opt (Fits m A) (stS m A)) ys q ∧ Ints 0 w'.heap.size w' a' c' ys ∧ ys.length ≤ 1048576 ∧ Ext w w') := by
  have hmm : totL m.start + totL m.send + totC m.clauses + m.output.length ≤ 1048576 := hnm
  have hqA := totL_len A.ends
  have hmA : totL A.ends + A.ids.length + A.inputs.length ≤ 1048576 := hnA
  have hsl := stS_len m A
  have hE := Ext.refl w
  refine Fn_of Try.func20 rfl rfl (by kernel_rfl) rfl ?_
  refine W_seq ?_
  refine W_region ?_
  refine WL_m rfl (ev_box rfl) ?_
  rintro _ w2 ⟨rfl, hN2⟩
  have hz2 := hN2.size
  replace hE := hE.trans hN2.ext
  replace hm := hm.ext hN2.ext
  replace hA := hA.ext hN2.ext
  have hB2 : Blk w2 _ _ [_, _, _, _, _, _, _] := hN2.blk
  refine WL_m rfl (ev_box rfl) ?_
  rintro _ w3 ⟨rfl, hN3⟩
  have hz3 := hN3.size
  replace hE := hE.trans hN3.ext
  replace hm := hm.ext hN3.ext
  replace hA := hA.ext hN3.ext
  replace hB2 := hB2.ext hN3.ext
  have hB3 : Blk w3 _ _ [_, _, _] := hN3.blk
  refine WL_q rfl (ev_assign rfl) ?_
  refine WL_q rfl (ev_assign rfl) ?_
  refine WL_nil ?_
  refine thenE_n ?_
  refine W_seq ?_
  refine W_seq ?_
  refine W_region ?_
  refine WL_q rfl (ev_loads st36 sz36 rfl (cellsB hB2) rfl) ?_
  refine WL_q rfl (ev_loads st40 sz40 rfl (cellsB hB3) rfl) ?_
  refine WL_m rfl (ev_call rfl (maAsked_spec _ m _ A _ hm (by omega) (by omega) hA (by omega) (by omega))) ?_
  rintro _ w8 ⟨b8, rfl, hb8, hE8⟩
  have hz8 := hE8.size
  replace hE := hE.trans hE8
  replace hm := hm.ext hE8
  replace hA := hA.ext hE8
  replace hB2 := hB2.ext hE8
  replace hB3 := hB3.ext hE8
  refine WL_q rfl (ev_not rfl) ?_
  refine WL_nil ?_
  refine thenE_n ?_
  refine W_cond rfl (fun hg9 => ?_) (fun hg9 => ?_)
  · have hg8 := not_true hg9
    have hp8 := ttN hb8 hg8
    refine W_seq ?_
    refine W_region ?_
    refine WL_q rfl (ev_assign rfl) ?_
    refine WL_q rfl (ev_assign rfl) ?_
    refine WL_nil ?_
    refine thenE_n ?_
    refine W_ret ?_
    refine thenE_r ?_
    refine ret2 rfl rfl rfl ?_
    first | (exact ⟨none, 0, [], _, rfl, .no hp8, Ints.nil, by simp, hE⟩) | (exact ⟨_, _, _, _, rfl, .yes hp8 rfl, (own_i hO12).mono (Nat.zero_le _) (Nat.le_refl _), by omega, hE⟩)
  · have hg8 := not_false hg9
    have hp8 := hb8.1 hg8
    refine W_skip ?_
    refine thenE_n ?_
    refine W_seq ?_
    refine W_region ?_
    refine WL_q rfl (ev_loads st36 sz36 rfl (cellsB hB2) rfl) ?_
    refine WL_q rfl (ev_loads st40 sz40 rfl (cellsB hB3) rfl) ?_
    refine WL_m rfl (ev_call rfl (maStart_spec _ m _ A _ hm (by omega) (by omega) hA (by omega) (by omega) (by assumption))) ?_
    rintro _ w12 ⟨a12, c12, rfl, hO12, hE12⟩
    have hz12 := hE12.size
    replace hE := hE.trans hE12
    replace hm := hm.ext hE12
    replace hA := hA.ext hE12
    replace hB2 := hB2.ext hE12
    replace hB3 := hB3.ext hE12
    refine WL_q rfl (ev_assign rfl) ?_
    refine WL_q rfl (ev_assign rfl) ?_
    refine WL_nil ?_
    refine thenE_n ?_
    refine W_ret ?_
    refine ret2 rfl rfl rfl ?_
    first | (exact ⟨none, 0, [], _, rfl, .no hp8, Ints.nil, by simp, hE⟩) | (exact ⟨_, _, _, _, rfl, .yes hp8 rfl, (own_i hO12).mono (Nat.zero_le _) (Nat.le_refl _), by omega, hE⟩)

set_option maxRecDepth 100000 in
theorem law_StartStates (nm : MA) (m : Mach) (nA : NA) (A : Net) (w : World) (hm : IsMach 0 w.heap.size w nm m) (hsm : SmM m) (hA : IsNet 0 w.heap.size w nA A) (hsA : SmN A) :
    Fn Try.prog 4 #[machV nm m, netV nA A] w (fun v w' => v = VB true ∧ Ext w w') := by
  have hE := Ext.refl w
  refine Fn_of Try.func4 rfl rfl (by kernel_rfl) rfl ?_
  refine W_seq ?_
  refine W_region ?_
  refine WL_m rfl (ev_box rfl) ?_
  rintro _ w2 ⟨rfl, hN2⟩
  have hz2 := hN2.size
  replace hE := hE.trans hN2.ext
  replace hm := hm.ext hN2.ext
  replace hA := hA.ext hN2.ext
  have hB2 : Blk w2 _ _ [_, _, _, _, _, _, _] := hN2.blk
  refine WL_m rfl (ev_box rfl) ?_
  rintro _ w3 ⟨rfl, hN3⟩
  have hz3 := hN3.size
  replace hE := hE.trans hN3.ext
  replace hm := hm.ext hN3.ext
  replace hA := hA.ext hN3.ext
  replace hB2 := hB2.ext hN3.ext
  have hB3 : Blk w3 _ _ [_, _, _] := hN3.blk
  refine WL_q rfl (ev_assign rfl) ?_
  refine WL_nil ?_
  refine thenE_n ?_
  refine W_seq ?_
  refine W_region ?_
  refine WL_q rfl (ev_assign rfl) ?_
  refine WL_nil ?_
  refine thenE_n ?_
  refine W_seq ?_
  refine W_region ?_
  refine WL_q rfl (ev_loads st26 sz26 rfl (cellsB hB2) rfl) ?_
  refine WL_q rfl (ev_move rfl) ?_
  refine WL_m rfl (ev_call rfl (szMachine_spec _ m _ _ hm (by omega) hsm)) ?_
  rintro _ w19 ⟨r19, rfl, hE19, hr19⟩
  have hz19 := hE19.size
  replace hE := hE.trans hE19
  replace hm := hm.ext hE19
  replace hA := hA.ext hE19
  replace hB2 := hB2.ext hE19
  replace hB3 := hB3.ext hE19
  refine WL_q rfl (ev_assign rfl) ?_
  refine WL_nil ?_
  refine thenE_n ?_
  refine W_seq ?_
  refine W_seq ?_
  refine W_region ?_
  refine WL_q rfl (ev_move rfl) ?_
  refine WL_q rfl (ev_lss rfl rfl) ?_
  refine WL_nil ?_
  refine thenE_n ?_
  refine W_cond rfl (fun hg21 => ?_) (fun hg21 => ?_)
  · have hp21 := of_decide_eq_true hg21
    refine W_seq ?_
    refine W_region ?_
    refine WL_q rfl (ev_assign rfl) ?_
    refine WL_nil ?_
    refine thenE_n ?_
    refine W_ret ?_
    refine thenE_r ?_
    refine ret1 rfl rfl ?_
    first | (exact ⟨rfl, hE⟩) | (exact (tfX hg21).elim) | (exact (decF hg21).elim) | (exfalso; omega)
  · have hp21 := of_decide_eq_false hg21
    refine W_skip ?_
    refine thenE_n ?_
    refine W_seq ?_
    refine W_region ?_
    refine WL_q rfl (ev_loads st29 sz29 rfl (cellsB hB3) rfl) ?_
    refine WL_q rfl (ev_move rfl) ?_
    refine WL_m rfl (ev_call rfl (szNetwork_spec _ A _ _ hA (by omega) hsA)) ?_
    rintro _ w24 ⟨r24, rfl, hE24, hr24⟩
    have hz24 := hE24.size
    replace hE := hE.trans hE24
    replace hm := hm.ext hE24
    replace hA := hA.ext hE24
    replace hB2 := hB2.ext hE24
    replace hB3 := hB3.ext hE24
    refine WL_q rfl (ev_assign rfl) ?_
    refine WL_nil ?_
    refine thenE_n ?_
    refine W_seq ?_
    refine W_seq ?_
    refine W_region ?_
    refine WL_q rfl (ev_move rfl) ?_
    refine WL_q rfl (ev_lss rfl rfl) ?_
    refine WL_nil ?_
    refine thenE_n ?_
    refine W_cond rfl (fun hg26 => ?_) (fun hg26 => ?_)
    · have hp26 := of_decide_eq_true hg26
      refine W_seq ?_
      refine W_region ?_
      refine WL_q rfl (ev_assign rfl) ?_
      refine WL_nil ?_
      refine thenE_n ?_
      refine W_ret ?_
      refine thenE_r ?_
      refine ret1 rfl rfl ?_
      first | (exact ⟨rfl, hE⟩) | (exact (tfX hg26).elim) | (exact (decF hg26).elim) | (exfalso; omega)
    · have hp26 := of_decide_eq_false hg26
      refine W_skip ?_
      refine thenE_n ?_
      refine W_seq ?_
      refine W_drawE [(0, true), (2, true), (1, false), (3, false), (4, false), (5, true), (6, true), (7, true), (8, true), (9, true)] mixed (by kernel_rfl) rfl (by kernel_rfl) ?_
      intro wd8 hEd8 hzd8
      replace hE := hE.trans hEd8
      replace hm := hm.ext hEd8
      replace hA := hA.ext hEd8
      replace hB2 := hB2.ext hEd8
      replace hB3 := hB3.ext hEd8
      have hDd8 := Ext.refl wd8
      refine PW_q rfl rfl (fun wq hq => ev_loads st26 sz26 rfl (cellsB (hq.blk hB2)) rfl) ?_
      refine PW_q rfl rfl (fun wq hq => ev_loads st29 sz29 rfl (cellsB (hq.blk hB3)) rfl) ?_
      refine PW_m rfl rfl (ev_call rfl (toMachine_spec _ m _ hm (by omega) (by omega))) ?_
      rintro _ w29 ⟨h29, rfl, hF29, hE29⟩
      have hz29 := hE29.size
      replace hE := hE.trans hE29
      replace hDd8 := hDd8.trans hE29
      have hM29 := hF29.is
      refine ⟨hDd8, ?_⟩
      have hm_3 := hm.ext hDd8
      have hA_3 := hA.ext hDd8
      have hB2_3 := hB2.ext hDd8
      have hB3_3 := hB3.ext hDd8
      refine PW_m rfl rfl (ev_call rfl (toNetwork_spec _ A _ hA_3 (by omega) (by omega))) ?_
      rintro _ w31 ⟨h31, rfl, hF31, hE31⟩
      have hz31 := hE31.size
      replace hE := hE.trans hE31
      replace hDd8 := hDd8.trans hE31
      replace hF29 := hF29.ext hE31
      replace hM29 := hM29.ext hE31
      have hN31 := hF31.is
      refine ⟨hDd8, ?_⟩
      have hm_4 := hm.ext hDd8
      have hA_4 := hA.ext hDd8
      have hB2_4 := hB2.ext hDd8
      have hB3_4 := hB3.ext hDd8
      refine PW_m rfl rfl (ev_call rfl (sStartStates_spec _ m _ A _ hM29 (by omega) (by omega) hN31 (by omega) (by omega))) ?_
      rintro _ w32 ⟨a32, c32, y32, q32, rfl, hr32, hx32, hl32, hE32⟩
      have hz32 := hE32.size
      replace hE := hE.trans hE32
      replace hDd8 := hDd8.trans hE32
      replace hF29 := hF29.ext hE32
      replace hM29 := hM29.ext hE32
      replace hF31 := hF31.ext hE32
      replace hN31 := hN31.ext hE32
      refine ⟨hDd8, ?_⟩
      refine PW_q rfl rfl (fun wq hq => ev_move rfl) ?_
      refine PW_q rfl rfl (fun wq hq => ev_extract rfl rfl) ?_
      refine PW_q rfl rfl (fun wq hq => ev_extract rfl rfl) ?_
      refine PW_q rfl rfl (fun wq hq => ev_assign rfl) ?_
      refine PW_q rfl rfl (fun wq hq => ev_assign rfl) ?_
      replace hm := hm.ext hDd8
      replace hA := hA.ext hDd8
      replace hB2 := hB2.ext hDd8
      replace hB3 := hB3.ext hDd8
      refine PW_nil ?_
      refine thenE_n ?_
      refine W_seq ?_
      refine W_region ?_
      refine WL_q rfl (ev_loads st26 sz26 rfl (cellsB hB2) rfl) ?_
      refine WL_m rfl (ev_call rfl (toMachine_spec _ m _ hm (by omega) (by omega))) ?_
      rintro _ w36 ⟨h36, rfl, hF36, hE36⟩
      have hz36 := hE36.size
      replace hE := hE.trans hE36
      replace hm := hm.ext hE36
      replace hA := hA.ext hE36
      replace hB2 := hB2.ext hE36
      replace hB3 := hB3.ext hE36
      replace hF29 := hF29.ext hE36
      replace hM29 := hM29.ext hE36
      replace hF31 := hF31.ext hE36
      replace hN31 := hN31.ext hE36
      replace hx32 := hx32.ext hE36
      have hM36 := hF36.is
      refine WL_m rfl (ev_alloc zr36) ?_
      rintro _ w8 ⟨rfl, hN8⟩
      have hz8 := hN8.size
      replace hE := hE.trans hN8.ext
      replace hm := hm.ext hN8.ext
      replace hA := hA.ext hN8.ext
      replace hB2 := hB2.ext hN8.ext
      replace hB3 := hB3.ext hN8.ext
      replace hF29 := hF29.ext hN8.ext
      replace hM29 := hM29.ext hN8.ext
      replace hF31 := hF31.ext hN8.ext
      replace hN31 := hN31.ext hN8.ext
      replace hx32 := hx32.ext hN8.ext
      replace hF36 := hF36.ext hN8.ext
      replace hM36 := hM36.ext hN8.ext
      have hB8 : Blk w8 _ _ [_, _, _, _, _, _, _] := hN8.blk
      refine WL_s (ev_stores sz36 rfl rfl rfl (by simp [Value.oneCell']) hB8 (by simp)) ?_
      rintro _ w9_3 hS9_3
      have hz9_3 := hS9_3.size
      replace hE := hE.sto hS9_3 (by omega)
      replace hm := hm.sto hS9_3 (by omega)
      replace hA := hA.sto hS9_3 (by omega)
      replace hB2 := hB2.sto hS9_3 (by omega)
      replace hB3 := hB3.sto hS9_3 (by omega)
      replace hF29 := hF29.sto hS9_3 (by omega)
      replace hM29 := hM29.sto hS9_3 (by omega)
      replace hF31 := hF31.sto hS9_3 (by omega)
      replace hN31 := hN31.sto hS9_3 (by omega)
      replace hx32 := hx32.sto hS9_3 (by omega)
      replace hF36 := hF36.sto hS9_3 (by omega)
      replace hM36 := hM36.sto hS9_3 (by omega)
      replace hB8 : Blk w9_3 _ _ [_, _, _, _, _, _, _] := hS9_3.blk
      refine WL_nil ?_
      refine thenE_n ?_
      refine W_seq ?_
      refine W_region ?_
      refine WL_q rfl (ev_loads st29 sz29 rfl (cellsB hB3) rfl) ?_
      refine WL_m rfl (ev_call rfl (toNetwork_spec _ A _ hA (by omega) (by omega))) ?_
      rintro _ w38 ⟨h38, rfl, hF38, hE38⟩
      have hz38 := hE38.size
      replace hE := hE.trans hE38
      replace hm := hm.ext hE38
      replace hA := hA.ext hE38
      replace hB2 := hB2.ext hE38
      replace hB3 := hB3.ext hE38
      replace hF29 := hF29.ext hE38
      replace hM29 := hM29.ext hE38
      replace hF31 := hF31.ext hE38
      replace hN31 := hN31.ext hE38
      replace hx32 := hx32.ext hE38
      replace hF36 := hF36.ext hE38
      replace hM36 := hM36.ext hE38
      replace hB8 := hB8.ext hE38
      have hN38 := hF38.is
      refine WL_m rfl (ev_alloc zr40) ?_
      rintro _ w9 ⟨rfl, hN9⟩
      have hz9 := hN9.size
      replace hE := hE.trans hN9.ext
      replace hm := hm.ext hN9.ext
      replace hA := hA.ext hN9.ext
      replace hB2 := hB2.ext hN9.ext
      replace hB3 := hB3.ext hN9.ext
      replace hF29 := hF29.ext hN9.ext
      replace hM29 := hM29.ext hN9.ext
      replace hF31 := hF31.ext hN9.ext
      replace hN31 := hN31.ext hN9.ext
      replace hx32 := hx32.ext hN9.ext
      replace hF36 := hF36.ext hN9.ext
      replace hM36 := hM36.ext hN9.ext
      replace hB8 := hB8.ext hN9.ext
      replace hF38 := hF38.ext hN9.ext
      replace hN38 := hN38.ext hN9.ext
      have hB9 : Blk w9 _ _ [_, _, _] := hN9.blk
      refine WL_s (ev_stores sz40 rfl rfl rfl (by simp [Value.oneCell']) hB9 (by simp)) ?_
      rintro _ w10_3 hS10_3
      have hz10_3 := hS10_3.size
      replace hE := hE.sto hS10_3 (by omega)
      replace hm := hm.sto hS10_3 (by omega)
      replace hA := hA.sto hS10_3 (by omega)
      replace hB2 := hB2.sto hS10_3 (by omega)
      replace hB3 := hB3.sto hS10_3 (by omega)
      replace hF29 := hF29.sto hS10_3 (by omega)
      replace hM29 := hM29.sto hS10_3 (by omega)
      replace hF31 := hF31.sto hS10_3 (by omega)
      replace hN31 := hN31.sto hS10_3 (by omega)
      replace hx32 := hx32.sto hS10_3 (by omega)
      replace hF36 := hF36.sto hS10_3 (by omega)
      replace hM36 := hM36.sto hS10_3 (by omega)
      replace hB8 := hB8.sto hS10_3 (by omega)
      replace hF38 := hF38.sto hS10_3 (by omega)
      replace hN38 := hN38.sto hS10_3 (by omega)
      replace hB9 : Blk w10_3 _ _ [_, _, _] := hS10_3.blk
      refine WL_nil ?_
      refine thenE_n ?_
      refine W_seq ?_
      refine W_region ?_
      refine WL_q rfl (ev_loads st36 sz36 rfl (cellsB hB8) rfl) ?_
      refine WL_q rfl (ev_loads st40 sz40 rfl (cellsB hB9) rfl) ?_
      refine WL_m rfl (ev_call rfl (StartStates_spec _ m _ A _ hM36 (by omega) (by omega) hN38 (by omega) (by omega))) ?_
      rintro _ w42 ⟨a42, c42, y42, q42, rfl, hr42, hO42, hl42, hE42⟩
      have hz42 := hE42.size
      replace hE := hE.trans hE42
      replace hm := hm.ext hE42
      replace hA := hA.ext hE42
      replace hB2 := hB2.ext hE42
      replace hB3 := hB3.ext hE42
      replace hF29 := hF29.ext hE42
      replace hM29 := hM29.ext hE42
      replace hF31 := hF31.ext hE42
      replace hN31 := hN31.ext hE42
      replace hx32 := hx32.ext hE42
      replace hF36 := hF36.ext hE42
      replace hM36 := hM36.ext hE42
      replace hB8 := hB8.ext hE42
      replace hF38 := hF38.ext hE42
      replace hN38 := hN38.ext hE42
      replace hB9 := hB9.ext hE42
      refine WL_q rfl (ev_move rfl) ?_
      refine WL_q rfl (ev_extract rfl rfl) ?_
      refine WL_q rfl (ev_extract rfl rfl) ?_
      refine WL_q rfl (ev_assign rfl) ?_
      refine WL_q rfl (ev_assign rfl) ?_
      refine WL_nil ?_
      refine thenE_n ?_
      refine W_seq ?_
      refine W_seq ?_
      refine W_region ?_
      refine WL_q rfl (ev_move rfl) ?_
      refine WL_q rfl (ev_move rfl) ?_
      refine WL_m rfl (ev_call rfl (eqIntS_spec _ _ _ _ y42 y32 _ (ownt_i hO42) hx32 (by omega))) ?_
      rintro _ w47 ⟨rfl, hE47⟩
      have hz47 := hE47.size
      replace hE := hE.trans hE47
      replace hm := hm.ext hE47
      replace hA := hA.ext hE47
      replace hB2 := hB2.ext hE47
      replace hB3 := hB3.ext hE47
      replace hF29 := hF29.ext hE47
      replace hM29 := hM29.ext hE47
      replace hF31 := hF31.ext hE47
      replace hN31 := hN31.ext hE47
      replace hx32 := hx32.ext hE47
      replace hF36 := hF36.ext hE47
      replace hM36 := hM36.ext hE47
      replace hB8 := hB8.ext hE47
      replace hF38 := hF38.ext hE47
      replace hN38 := hN38.ext hE47
      replace hB9 := hB9.ext hE47
      replace hO42 := hO42.ext hE47
      refine WL_q rfl (ev_not rfl) ?_
      refine WL_q rfl (ev_move rfl) ?_
      refine WL_splitv (t := 49) rfl (fun hg48 => ?_) (fun hg48 => ?_)
      · have hg47 := not_true hg48
        refine WL_no rfl rfl hg48 rfl ?_
        refine WL_no rfl rfl hg48 rfl ?_
        refine WL_no rfl rfl hg48 rfl ?_
        refine WL_q rfl (ev_pick_t rfl hg48 rfl) ?_
        refine WL_nil ?_
        refine thenE_n ?_
        refine W_cond_t rfl ?_
        refine W_seq ?_
        refine W_region ?_
        refine WL_q rfl (ev_assign rfl) ?_
        refine WL_nil ?_
        refine thenE_n ?_
        refine W_ret ?_
        refine thenE_r ?_
        refine ret1 rfl rfl ?_
        first | (exact ⟨rfl, hE⟩) | (exact (bneE hg47 (hr42.det1 hr32)).elim) | (exact absurd (hr42.det1 hr32) hp47) | (exact absurd (hr42.det1 hr32) (of_decide_eq_false hg47)) | (exact (bneE hg47 (hr42.det2 hr32)).elim) | (exact absurd (hr42.det2 hr32) hp47) | (exact absurd (hr42.det2 hr32) (of_decide_eq_false hg47)) | (exact (bneE hg47 (hr42.det3 hr32)).elim) | (exact absurd (hr42.det3 hr32) hp47) | (exact absurd (hr42.det3 hr32) (of_decide_eq_false hg47)) | (exact (tfX hg47).elim) | (exact (decF hg47).elim) | (exfalso; omega)
      · have hg47 := not_false hg48
        refine WL_qg rfl rfl hg48 rfl (ev_move rfl) ?_
        refine WL_qg rfl rfl hg48 rfl (ev_move rfl) ?_
        refine WL_qg rfl rfl hg48 rfl (ev_neq_b Try.underlying4 rfl rfl) ?_
        refine WL_q rfl (ev_pick_f rfl hg48 rfl) ?_
        refine WL_nil ?_
        refine thenE_n ?_
        refine W_cond rfl (fun hg52 => ?_) (fun hg52 => ?_)
        · refine W_seq ?_
          refine W_region ?_
          refine WL_q rfl (ev_assign rfl) ?_
          refine WL_nil ?_
          refine thenE_n ?_
          refine W_ret ?_
          refine thenE_r ?_
          refine ret1 rfl rfl ?_
          first | (exact ⟨rfl, hE⟩) | (exact (bneE hg52 (hr42.det1 hr32)).elim) | (exact absurd (hr42.det1 hr32) hp52) | (exact absurd (hr42.det1 hr32) (of_decide_eq_false hg52)) | (exact (bneE hg52 (hr42.det2 hr32)).elim) | (exact absurd (hr42.det2 hr32) hp52) | (exact absurd (hr42.det2 hr32) (of_decide_eq_false hg52)) | (exact (bneE hg52 (hr42.det3 hr32)).elim) | (exact absurd (hr42.det3 hr32) hp52) | (exact absurd (hr42.det3 hr32) (of_decide_eq_false hg52)) | (exact (tfX hg52).elim) | (exact (decF hg52).elim) | (exfalso; omega)
        · refine W_skip ?_
          refine thenE_n ?_
          refine W_seq ?_
          refine W_seq ?_
          refine W_drawE [(0, true), (1, true), (2, false), (3, false), (4, true)] mixed (by kernel_rfl) rfl (by kernel_rfl) ?_
          intro wd14 hEd14 hzd14
          replace hE := hE.trans hEd14
          replace hm := hm.ext hEd14
          replace hA := hA.ext hEd14
          replace hB2 := hB2.ext hEd14
          replace hB3 := hB3.ext hEd14
          replace hF29 := hF29.ext hEd14
          replace hM29 := hM29.ext hEd14
          replace hF31 := hF31.ext hEd14
          replace hN31 := hN31.ext hEd14
          replace hx32 := hx32.ext hEd14
          replace hF36 := hF36.ext hEd14
          replace hM36 := hM36.ext hEd14
          replace hB8 := hB8.ext hEd14
          replace hF38 := hF38.ext hEd14
          replace hN38 := hN38.ext hEd14
          replace hB9 := hB9.ext hEd14
          replace hO42 := hO42.ext hEd14
          have hDd14 := Ext.refl wd14
          refine PW_q rfl rfl (fun wq hq => ev_loads st36 sz36 rfl (cellsB (hq.blk hB8)) rfl) ?_
          refine PW_q rfl rfl (fun wq hq => ev_loads st26 sz26 rfl (cellsB (hq.blk hB2)) rfl) ?_
          refine PW_m rfl rfl (ev_call rfl (toMachine_spec _ m _ hm (by omega) (by omega))) ?_
          rintro _ w56 ⟨h56, rfl, hF56, hE56⟩
          have hz56 := hE56.size
          replace hE := hE.trans hE56
          replace hDd14 := hDd14.trans hE56
          have hM56 := hF56.is
          refine ⟨hDd14, ?_⟩
          have hm_3 := hm.ext hDd14
          have hA_3 := hA.ext hDd14
          have hB2_3 := hB2.ext hDd14
          have hB3_3 := hB3.ext hDd14
          have hF29_3 := hF29.ext hDd14
          have hM29_3 := hM29.ext hDd14
          have hF31_3 := hF31.ext hDd14
          have hN31_3 := hN31.ext hDd14
          have hx32_3 := hx32.ext hDd14
          have hF36_3 := hF36.ext hDd14
          have hM36_3 := hM36.ext hDd14
          have hB8_3 := hB8.ext hDd14
          have hF38_3 := hF38.ext hDd14
          have hN38_3 := hN38.ext hDd14
          have hB9_3 := hB9.ext hDd14
          have hO42_3 := hO42.ext hDd14
          refine PW_m rfl rfl (ev_call rfl (eqMachine_spec _ _ m _ hM36_3 hM56 (by omega))) ?_
          rintro _ w57 ⟨rfl, hE57⟩
          have hz57 := hE57.size
          replace hE := hE.trans hE57
          replace hDd14 := hDd14.trans hE57
          replace hF56 := hF56.ext hE57
          replace hM56 := hM56.ext hE57
          refine ⟨hDd14, ?_⟩
          refine PW_q rfl rfl (fun wq hq => ev_not rfl) ?_
          replace hm := hm.ext hDd14
          replace hA := hA.ext hDd14
          replace hB2 := hB2.ext hDd14
          replace hB3 := hB3.ext hDd14
          replace hF29 := hF29.ext hDd14
          replace hM29 := hM29.ext hDd14
          replace hF31 := hF31.ext hDd14
          replace hN31 := hN31.ext hDd14
          replace hx32 := hx32.ext hDd14
          replace hF36 := hF36.ext hDd14
          replace hM36 := hM36.ext hDd14
          replace hB8 := hB8.ext hDd14
          replace hF38 := hF38.ext hDd14
          replace hN38 := hN38.ext hDd14
          replace hB9 := hB9.ext hDd14
          replace hO42 := hO42.ext hDd14
          refine PW_nil ?_
          refine thenE_n ?_
          refine W_cond rfl (fun hg58 => ?_) (fun hg58 => ?_)
          · have hg57 := not_true hg58
            refine W_seq ?_
            refine W_region ?_
            refine WL_q rfl (ev_assign rfl) ?_
            refine WL_nil ?_
            refine thenE_n ?_
            refine W_ret ?_
            refine thenE_r ?_
            refine ret1 rfl rfl ?_
            first | (exact ⟨rfl, hE⟩) | (exact (bneE hg57 (hr42.det1 hr32)).elim) | (exact absurd (hr42.det1 hr32) hp57) | (exact absurd (hr42.det1 hr32) (of_decide_eq_false hg57)) | (exact (bneE hg57 (hr42.det2 hr32)).elim) | (exact absurd (hr42.det2 hr32) hp57) | (exact absurd (hr42.det2 hr32) (of_decide_eq_false hg57)) | (exact (bneE hg57 (hr42.det3 hr32)).elim) | (exact absurd (hr42.det3 hr32) hp57) | (exact absurd (hr42.det3 hr32) (of_decide_eq_false hg57)) | (exact (tfX hg57).elim) | (exact (decF hg57).elim) | (exfalso; omega)
          · have hg57 := not_false hg58
            refine W_skip ?_
            refine thenE_n ?_
            refine W_seq ?_
            refine W_seq ?_
            refine W_drawE [(0, true), (1, true), (2, false), (3, false), (4, true)] mixed (by kernel_rfl) rfl (by kernel_rfl) ?_
            intro wd16 hEd16 hzd16
            replace hE := hE.trans hEd16
            replace hm := hm.ext hEd16
            replace hA := hA.ext hEd16
            replace hB2 := hB2.ext hEd16
            replace hB3 := hB3.ext hEd16
            replace hF29 := hF29.ext hEd16
            replace hM29 := hM29.ext hEd16
            replace hF31 := hF31.ext hEd16
            replace hN31 := hN31.ext hEd16
            replace hx32 := hx32.ext hEd16
            replace hF36 := hF36.ext hEd16
            replace hM36 := hM36.ext hEd16
            replace hB8 := hB8.ext hEd16
            replace hF38 := hF38.ext hEd16
            replace hN38 := hN38.ext hEd16
            replace hB9 := hB9.ext hEd16
            replace hO42 := hO42.ext hEd16
            replace hF56 := hF56.ext hEd16
            replace hM56 := hM56.ext hEd16
            have hDd16 := Ext.refl wd16
            refine PW_q rfl rfl (fun wq hq => ev_loads st40 sz40 rfl (cellsB (hq.blk hB9)) rfl) ?_
            refine PW_q rfl rfl (fun wq hq => ev_loads st29 sz29 rfl (cellsB (hq.blk hB3)) rfl) ?_
            refine PW_m rfl rfl (ev_call rfl (toNetwork_spec _ A _ hA (by omega) (by omega))) ?_
            rintro _ w61 ⟨h61, rfl, hF61, hE61⟩
            have hz61 := hE61.size
            replace hE := hE.trans hE61
            replace hDd16 := hDd16.trans hE61
            have hN61 := hF61.is
            refine ⟨hDd16, ?_⟩
            have hm_3 := hm.ext hDd16
            have hA_3 := hA.ext hDd16
            have hB2_3 := hB2.ext hDd16
            have hB3_3 := hB3.ext hDd16
            have hF29_3 := hF29.ext hDd16
            have hM29_3 := hM29.ext hDd16
            have hF31_3 := hF31.ext hDd16
            have hN31_3 := hN31.ext hDd16
            have hx32_3 := hx32.ext hDd16
            have hF36_3 := hF36.ext hDd16
            have hM36_3 := hM36.ext hDd16
            have hB8_3 := hB8.ext hDd16
            have hF38_3 := hF38.ext hDd16
            have hN38_3 := hN38.ext hDd16
            have hB9_3 := hB9.ext hDd16
            have hO42_3 := hO42.ext hDd16
            have hF56_3 := hF56.ext hDd16
            have hM56_3 := hM56.ext hDd16
            refine PW_m rfl rfl (ev_call rfl (eqNetwork_spec _ _ A _ hN38_3 hN61 (by omega))) ?_
            rintro _ w62 ⟨rfl, hE62⟩
            have hz62 := hE62.size
            replace hE := hE.trans hE62
            replace hDd16 := hDd16.trans hE62
            replace hF61 := hF61.ext hE62
            replace hN61 := hN61.ext hE62
            refine ⟨hDd16, ?_⟩
            refine PW_q rfl rfl (fun wq hq => ev_not rfl) ?_
            replace hm := hm.ext hDd16
            replace hA := hA.ext hDd16
            replace hB2 := hB2.ext hDd16
            replace hB3 := hB3.ext hDd16
            replace hF29 := hF29.ext hDd16
            replace hM29 := hM29.ext hDd16
            replace hF31 := hF31.ext hDd16
            replace hN31 := hN31.ext hDd16
            replace hx32 := hx32.ext hDd16
            replace hF36 := hF36.ext hDd16
            replace hM36 := hM36.ext hDd16
            replace hB8 := hB8.ext hDd16
            replace hF38 := hF38.ext hDd16
            replace hN38 := hN38.ext hDd16
            replace hB9 := hB9.ext hDd16
            replace hO42 := hO42.ext hDd16
            replace hF56 := hF56.ext hDd16
            replace hM56 := hM56.ext hDd16
            refine PW_nil ?_
            refine thenE_n ?_
            refine W_cond rfl (fun hg63 => ?_) (fun hg63 => ?_)
            · have hg62 := not_true hg63
              refine W_seq ?_
              refine W_region ?_
              refine WL_q rfl (ev_assign rfl) ?_
              refine WL_nil ?_
              refine thenE_n ?_
              refine W_ret ?_
              refine thenE_r ?_
              refine ret1 rfl rfl ?_
              first | (exact ⟨rfl, hE⟩) | (exact (bneE hg62 (hr42.det1 hr32)).elim) | (exact absurd (hr42.det1 hr32) hp62) | (exact absurd (hr42.det1 hr32) (of_decide_eq_false hg62)) | (exact (bneE hg62 (hr42.det2 hr32)).elim) | (exact absurd (hr42.det2 hr32) hp62) | (exact absurd (hr42.det2 hr32) (of_decide_eq_false hg62)) | (exact (bneE hg62 (hr42.det3 hr32)).elim) | (exact absurd (hr42.det3 hr32) hp62) | (exact absurd (hr42.det3 hr32) (of_decide_eq_false hg62)) | (exact (tfX hg62).elim) | (exact (decF hg62).elim) | (exfalso; omega)
            · have hg62 := not_false hg63
              refine W_skip ?_
              refine thenE_n ?_
              refine W_seq ?_
              refine W_region ?_
              refine WL_q rfl (ev_assign rfl) ?_
              refine WL_nil ?_
              refine thenE_n ?_
              refine W_seq ?_
              refine W_region ?_
              refine WL_q rfl (ev_loads st36 sz36 rfl (cellsB hB8) rfl) ?_
              refine WL_q rfl (ev_move rfl) ?_
              refine WL_m rfl (ev_call rfl (markMachine_spec _ m _ _ hF36 (by omega) (by omega) (by omega))) ?_
              rintro _ w66 ⟨r66, rfl, hr66, hK66⟩
              have hz66 := hK66.size
              replace hE := hE.mrk hK66 (by omega)
              replace hm := hm.mrk hK66 (by omega)
              replace hA := hA.mrk hK66 (by omega)
              replace hB2 := hB2.mrk hK66 (by omega)
              replace hB3 := hB3.mrk hK66 (by omega)
              replace hF29 := hF29.mrk hK66 (by omega)
              replace hM29 := hM29.mrk hK66 (by omega)
              replace hF31 := hF31.mrk hK66 (by omega)
              replace hN31 := hN31.mrk hK66 (by omega)
              replace hx32 := hx32.mrk hK66 (by omega)
              replace hB8 := hB8.mrk hK66 (by omega)
              replace hF38 := hF38.mrk hK66 (by omega)
              replace hN38 := hN38.mrk hK66 (by omega)
              replace hB9 := hB9.mrk hK66 (by omega)
              replace hO42 := hO42.mrk hK66 (by omega)
              replace hF56 := hF56.mrk hK66 (by omega)
              replace hM56 := hM56.mrk hK66 (by omega)
              replace hF61 := hF61.mrk hK66 (by omega)
              replace hN61 := hN61.mrk hK66 (by omega)
              refine WL_q rfl (ev_assign rfl) ?_
              refine WL_nil ?_
              refine thenE_n ?_
              refine W_seq ?_
              refine W_region ?_
              refine WL_q rfl (ev_loads st40 sz40 rfl (cellsB hB9) rfl) ?_
              refine WL_q rfl (ev_move rfl) ?_
              refine WL_m rfl (ev_call rfl (markNetwork_spec _ A _ _ hF38 (by omega) (by omega) (by omega))) ?_
              rintro _ w69 ⟨r69, rfl, hr69, hK69⟩
              have hz69 := hK69.size
              replace hE := hE.mrk hK69 (by omega)
              replace hm := hm.mrk hK69 (by omega)
              replace hA := hA.mrk hK69 (by omega)
              replace hB2 := hB2.mrk hK69 (by omega)
              replace hB3 := hB3.mrk hK69 (by omega)
              replace hF29 := hF29.mrk hK69 (by omega)
              replace hM29 := hM29.mrk hK69 (by omega)
              replace hF31 := hF31.mrk hK69 (by omega)
              replace hN31 := hN31.mrk hK69 (by omega)
              replace hx32 := hx32.mrk hK69 (by omega)
              replace hB8 := hB8.mrk hK69 (by omega)
              replace hB9 := hB9.mrk hK69 (by omega)
              replace hO42 := hO42.mrk hK69 (by omega)
              replace hF56 := hF56.mrk hK69 (by omega)
              replace hM56 := hM56.mrk hK69 (by omega)
              replace hF61 := hF61.mrk hK69 (by omega)
              replace hN61 := hN61.mrk hK69 (by omega)
              refine WL_q rfl (ev_assign rfl) ?_
              refine WL_nil ?_
              refine thenE_n ?_
              refine W_seq ?_
              refine W_seq ?_
              refine W_region ?_
              refine WL_q rfl (ev_move rfl) ?_
              refine WL_q rfl (ev_lss rfl rfl) ?_
              refine WL_q rfl (ev_move rfl) ?_
              refine WL_splitv (t := 72) rfl (fun hg71 => ?_) (fun hg71 => ?_)
              · have hp71 := of_decide_eq_true hg71
                refine WL_no rfl rfl hg71 rfl ?_
                refine WL_no rfl rfl hg71 rfl ?_
                refine WL_no rfl rfl hg71 rfl ?_
                refine WL_no rfl rfl hg71 rfl ?_
                refine WL_q rfl (ev_pick_t rfl hg71 rfl) ?_
                refine WL_q rfl (ev_move rfl) ?_
                refine WL_no rfl rfl rfl rfl ?_
                refine WL_no rfl rfl rfl rfl ?_
                refine WL_no rfl rfl rfl rfl ?_
                refine WL_q rfl (ev_pick_t rfl rfl rfl) ?_
                refine WL_nil ?_
                refine thenE_n ?_
                refine W_cond_t rfl ?_
                refine W_seq ?_
                refine W_region ?_
                refine WL_q rfl (ev_assign rfl) ?_
                refine WL_nil ?_
                refine thenE_n ?_
                refine W_ret ?_
                refine thenE_r ?_
                refine ret1 rfl rfl ?_
                first | (exact ⟨rfl, hE⟩) | (exact (bneE hg71 (hr42.det1 hr32)).elim) | (exact absurd (hr42.det1 hr32) hp71) | (exact absurd (hr42.det1 hr32) (of_decide_eq_false hg71)) | (exact (bneE hg71 (hr42.det2 hr32)).elim) | (exact absurd (hr42.det2 hr32) hp71) | (exact absurd (hr42.det2 hr32) (of_decide_eq_false hg71)) | (exact (bneE hg71 (hr42.det3 hr32)).elim) | (exact absurd (hr42.det3 hr32) hp71) | (exact absurd (hr42.det3 hr32) (of_decide_eq_false hg71)) | (exact (tfX hg71).elim) | (exact (decF hg71).elim) | (exfalso; omega)
              · have hp71 := of_decide_eq_false hg71
                refine WL_qg rfl rfl hg71 rfl (ev_move rfl) ?_
                refine WL_qg rfl rfl hg71 rfl (ev_move rfl) ?_
                refine WL_mg rfl rfl hg71 rfl (ev_call rfl (eqIntS_spec _ _ _ _ y42 y32 _ (ownt_i hO42) hx32 (by omega))) ?_
                rintro _ w75 ⟨rfl, hE75⟩
                have hz75 := hE75.size
                replace hE := hE.trans hE75
                replace hm := hm.ext hE75
                replace hA := hA.ext hE75
                replace hB2 := hB2.ext hE75
                replace hB3 := hB3.ext hE75
                replace hF29 := hF29.ext hE75
                replace hM29 := hM29.ext hE75
                replace hF31 := hF31.ext hE75
                replace hN31 := hN31.ext hE75
                replace hx32 := hx32.ext hE75
                replace hB8 := hB8.ext hE75
                replace hB9 := hB9.ext hE75
                replace hO42 := hO42.ext hE75
                replace hF56 := hF56.ext hE75
                replace hM56 := hM56.ext hE75
                replace hF61 := hF61.ext hE75
                replace hN61 := hN61.ext hE75
                refine WL_qg rfl rfl hg71 rfl (ev_not rfl) ?_
                refine WL_q rfl (ev_pick_f rfl hg71 rfl) ?_
                refine WL_q rfl (ev_move rfl) ?_
                refine WL_splitv (t := 78) rfl (fun hg76 => ?_) (fun hg76 => ?_)
                · have hg75 := not_true hg76
                  refine WL_no rfl rfl hg76 rfl ?_
                  refine WL_no rfl rfl hg76 rfl ?_
                  refine WL_no rfl rfl hg76 rfl ?_
                  refine WL_q rfl (ev_pick_t rfl hg76 rfl) ?_
                  refine WL_nil ?_
                  refine thenE_n ?_
                  refine W_cond_t rfl ?_
                  refine W_seq ?_
                  refine W_region ?_
                  refine WL_q rfl (ev_assign rfl) ?_
                  refine WL_nil ?_
                  refine thenE_n ?_
                  refine W_ret ?_
                  refine thenE_r ?_
                  refine ret1 rfl rfl ?_
                  first | (exact ⟨rfl, hE⟩) | (exact (bneE hg75 (hr42.det1 hr32)).elim) | (exact absurd (hr42.det1 hr32) hp75) | (exact absurd (hr42.det1 hr32) (of_decide_eq_false hg75)) | (exact (bneE hg75 (hr42.det2 hr32)).elim) | (exact absurd (hr42.det2 hr32) hp75) | (exact absurd (hr42.det2 hr32) (of_decide_eq_false hg75)) | (exact (bneE hg75 (hr42.det3 hr32)).elim) | (exact absurd (hr42.det3 hr32) hp75) | (exact absurd (hr42.det3 hr32) (of_decide_eq_false hg75)) | (exact (tfX hg75).elim) | (exact (decF hg75).elim) | (exfalso; omega)
                · have hg75 := not_false hg76
                  refine WL_qg rfl rfl hg76 rfl (ev_move rfl) ?_
                  refine WL_qg rfl rfl hg76 rfl (ev_move rfl) ?_
                  refine WL_qg rfl rfl hg76 rfl (ev_neq_b Try.underlying4 rfl rfl) ?_
                  refine WL_q rfl (ev_pick_f rfl hg76 rfl) ?_
                  refine WL_nil ?_
                  refine thenE_n ?_
                  refine W_cond rfl (fun hg81 => ?_) (fun hg81 => ?_)
                  · refine W_seq ?_
                    refine W_region ?_
                    refine WL_q rfl (ev_assign rfl) ?_
                    refine WL_nil ?_
                    refine thenE_n ?_
                    refine W_ret ?_
                    refine thenE_r ?_
                    refine ret1 rfl rfl ?_
                    first | (exact ⟨rfl, hE⟩) | (exact (bneE hg81 (hr42.det1 hr32)).elim) | (exact absurd (hr42.det1 hr32) hp81) | (exact absurd (hr42.det1 hr32) (of_decide_eq_false hg81)) | (exact (bneE hg81 (hr42.det2 hr32)).elim) | (exact absurd (hr42.det2 hr32) hp81) | (exact absurd (hr42.det2 hr32) (of_decide_eq_false hg81)) | (exact (bneE hg81 (hr42.det3 hr32)).elim) | (exact absurd (hr42.det3 hr32) hp81) | (exact absurd (hr42.det3 hr32) (of_decide_eq_false hg81)) | (exact (tfX hg81).elim) | (exact (decF hg81).elim) | (exfalso; omega)
                  · refine W_skip ?_
                    refine thenE_n ?_
                    refine W_seq ?_
                    refine W_region ?_
                    refine WL_q rfl (ev_assign rfl) ?_
                    refine WL_nil ?_
                    refine thenE_n ?_
                    refine W_seq ?_
                    refine W_region ?_
                    refine WL_q rfl (ev_move rfl) ?_
                    refine WL_q rfl (ev_move rfl) ?_
                    refine WL_m rfl (ev_call rfl (markIntS_ownH hO42 (by omega) (by omega))) ?_
                    rintro _ w85 ⟨rfl, hO85, hK85⟩
                    have hz85 := hK85.size
                    have hR85 := hK85
                    replace hE := hE.rg hR85 (by omega)
                    replace hm := hm.rg hR85 (by omega)
                    replace hA := hA.rg hR85 (by omega)
                    replace hB2 := hB2.rg hR85 (by omega)
                    replace hB3 := hB3.rg hR85 (by omega)
                    replace hF29 := hF29.rg hR85 (by omega)
                    replace hM29 := hM29.rg hR85 (by omega)
                    replace hF31 := hF31.rg hR85 (by omega)
                    replace hN31 := hN31.rg hR85 (by omega)
                    replace hx32 := hx32.rg hR85 (by omega)
                    replace hB8 := hB8.rg hR85 (by omega)
                    replace hB9 := hB9.rg hR85 (by omega)
                    replace hF56 := hF56.rg hR85 (by omega)
                    replace hM56 := hM56.rg hR85 (by omega)
                    replace hF61 := hF61.rg hR85 (by omega)
                    replace hN61 := hN61.rg hR85 (by omega)
                    replace hO42 := hO85
                    refine WL_q rfl (ev_assign rfl) ?_
                    refine WL_nil ?_
                    refine thenE_n ?_
                    refine W_seq ?_
                    refine W_region ?_
                    refine WL_q rfl (ev_assign rfl) ?_
                    refine WL_nil ?_
                    refine thenE_n ?_
                    refine W_seq ?_
                    refine W_region ?_
                    refine WL_q rfl (ev_move rfl) ?_
                    refine WL_q rfl (ev_move rfl) ?_
                    refine WL_m rfl (ev_call rfl (heldIntS_spec _ _ (nums 1 y42.length) _ _ (Ints.of_own (nums_len _ _) hO42.1) rfl (by omega) (by omega))) ?_
                    rintro _ w88 ⟨rfl, hE88⟩
                    have hz88 := hE88.size
                    replace hE := hE.trans hE88
                    replace hm := hm.ext hE88
                    replace hA := hA.ext hE88
                    replace hB2 := hB2.ext hE88
                    replace hB3 := hB3.ext hE88
                    replace hF29 := hF29.ext hE88
                    replace hM29 := hM29.ext hE88
                    replace hF31 := hF31.ext hE88
                    replace hN31 := hN31.ext hE88
                    replace hx32 := hx32.ext hE88
                    replace hB8 := hB8.ext hE88
                    replace hB9 := hB9.ext hE88
                    replace hO42 := hO42.ext hE88
                    replace hF56 := hF56.ext hE88
                    replace hM56 := hM56.ext hE88
                    replace hF61 := hF61.ext hE88
                    replace hN61 := hN61.ext hE88
                    refine WL_q rfl (ev_assign rfl) ?_
                    refine WL_nil ?_
                    refine thenE_n ?_
                    refine W_seq ?_
                    refine W_seq ?_
                    refine W_region ?_
                    refine WL_q rfl (ev_move rfl) ?_
                    refine WL_q rfl (ev_lss rfl rfl) ?_
                    refine WL_nil ?_
                    refine thenE_n ?_
                    refine W_cond rfl (fun hg90 => ?_) (fun hg90 => ?_)
                    · have hp90 := of_decide_eq_true hg90
                      refine W_seq ?_
                      refine W_region ?_
                      refine WL_q rfl (ev_assign rfl) ?_
                      refine WL_nil ?_
                      refine thenE_n ?_
                      refine W_ret ?_
                      refine thenE_r ?_
                      refine ret1 rfl rfl ?_
                      first | (exact ⟨rfl, hE⟩) | (exact (bneE hg90 (hr42.det1 hr32)).elim) | (exact absurd (hr42.det1 hr32) hp90) | (exact absurd (hr42.det1 hr32) (of_decide_eq_false hg90)) | (exact (bneE hg90 (hr42.det2 hr32)).elim) | (exact absurd (hr42.det2 hr32) hp90) | (exact absurd (hr42.det2 hr32) (of_decide_eq_false hg90)) | (exact (bneE hg90 (hr42.det3 hr32)).elim) | (exact absurd (hr42.det3 hr32) hp90) | (exact absurd (hr42.det3 hr32) (of_decide_eq_false hg90)) | (exact (tfX hg90).elim) | (exact (decF hg90).elim) | (exfalso; omega)
                    · have hp90 := of_decide_eq_false hg90
                      refine W_skip ?_
                      refine thenE_n ?_
                      refine W_seq ?_
                      refine W_seq ?_
                      refine W_region ?_
                      refine WL_q rfl (ev_move rfl) ?_
                      refine WL_q rfl (ev_move rfl) ?_
                      refine WL_q rfl (ev_neq rfl rfl) ?_
                      refine WL_nil ?_
                      refine thenE_n ?_
                      refine W_cond rfl (fun hg93 => ?_) (fun hg93 => ?_)
                      · have hp93 := of_decide_eq_true hg93
                        refine W_seq ?_
                        refine W_region ?_
                        refine WL_q rfl (ev_assign rfl) ?_
                        refine WL_nil ?_
                        refine thenE_n ?_
                        refine W_ret ?_
                        refine thenE_r ?_
                        refine ret1 rfl rfl ?_
                        first | (exact ⟨rfl, hE⟩) | (exact (bneE hg93 (hr42.det1 hr32)).elim) | (exact absurd (hr42.det1 hr32) hp93) | (exact absurd (hr42.det1 hr32) (of_decide_eq_false hg93)) | (exact (bneE hg93 (hr42.det2 hr32)).elim) | (exact absurd (hr42.det2 hr32) hp93) | (exact absurd (hr42.det2 hr32) (of_decide_eq_false hg93)) | (exact (bneE hg93 (hr42.det3 hr32)).elim) | (exact absurd (hr42.det3 hr32) hp93) | (exact absurd (hr42.det3 hr32) (of_decide_eq_false hg93)) | (exact (tfX hg93).elim) | (exact (decF hg93).elim) | (exfalso; omega)
                      · have hp93 := of_decide_eq_false hg93
                        refine W_skip ?_
                        refine thenE_n ?_
                        refine W_seq ?_
                        refine W_drawE [(0, true), (2, true), (1, false), (3, false), (4, false), (5, true), (6, true), (7, true), (8, true), (9, true)] mixed (by kernel_rfl) rfl (by kernel_rfl) ?_
                        intro wd31 hEd31 hzd31
                        replace hE := hE.trans hEd31
                        replace hm := hm.ext hEd31
                        replace hA := hA.ext hEd31
                        replace hB2 := hB2.ext hEd31
                        replace hB3 := hB3.ext hEd31
                        replace hF29 := hF29.ext hEd31
                        replace hM29 := hM29.ext hEd31
                        replace hF31 := hF31.ext hEd31
                        replace hN31 := hN31.ext hEd31
                        replace hx32 := hx32.ext hEd31
                        replace hB8 := hB8.ext hEd31
                        replace hB9 := hB9.ext hEd31
                        replace hO42 := hO42.ext hEd31
                        replace hF56 := hF56.ext hEd31
                        replace hM56 := hM56.ext hEd31
                        replace hF61 := hF61.ext hEd31
                        replace hN61 := hN61.ext hEd31
                        have hDd31 := Ext.refl wd31
                        refine PW_q rfl rfl (fun wq hq => ev_loads st26 sz26 rfl (cellsB (hq.blk hB2)) rfl) ?_
                        refine PW_q rfl rfl (fun wq hq => ev_loads st29 sz29 rfl (cellsB (hq.blk hB3)) rfl) ?_
                        refine PW_m rfl rfl (ev_call rfl (toMachine_spec _ m _ hm (by omega) (by omega))) ?_
                        rintro _ w96 ⟨h96, rfl, hF96, hE96⟩
                        have hz96 := hE96.size
                        replace hE := hE.trans hE96
                        replace hDd31 := hDd31.trans hE96
                        have hM96 := hF96.is
                        refine ⟨hDd31, ?_⟩
                        have hm_3 := hm.ext hDd31
                        have hA_3 := hA.ext hDd31
                        have hB2_3 := hB2.ext hDd31
                        have hB3_3 := hB3.ext hDd31
                        have hF29_3 := hF29.ext hDd31
                        have hM29_3 := hM29.ext hDd31
                        have hF31_3 := hF31.ext hDd31
                        have hN31_3 := hN31.ext hDd31
                        have hx32_3 := hx32.ext hDd31
                        have hB8_3 := hB8.ext hDd31
                        have hB9_3 := hB9.ext hDd31
                        have hO42_3 := hO42.ext hDd31
                        have hF56_3 := hF56.ext hDd31
                        have hM56_3 := hM56.ext hDd31
                        have hF61_3 := hF61.ext hDd31
                        have hN61_3 := hN61.ext hDd31
                        refine PW_m rfl rfl (ev_call rfl (toNetwork_spec _ A _ hA_3 (by omega) (by omega))) ?_
                        rintro _ w98 ⟨h98, rfl, hF98, hE98⟩
                        have hz98 := hE98.size
                        replace hE := hE.trans hE98
                        replace hDd31 := hDd31.trans hE98
                        replace hF96 := hF96.ext hE98
                        replace hM96 := hM96.ext hE98
                        have hN98 := hF98.is
                        refine ⟨hDd31, ?_⟩
                        have hm_4 := hm.ext hDd31
                        have hA_4 := hA.ext hDd31
                        have hB2_4 := hB2.ext hDd31
                        have hB3_4 := hB3.ext hDd31
                        have hF29_4 := hF29.ext hDd31
                        have hM29_4 := hM29.ext hDd31
                        have hF31_4 := hF31.ext hDd31
                        have hN31_4 := hN31.ext hDd31
                        have hx32_4 := hx32.ext hDd31
                        have hB8_4 := hB8.ext hDd31
                        have hB9_4 := hB9.ext hDd31
                        have hO42_4 := hO42.ext hDd31
                        have hF56_4 := hF56.ext hDd31
                        have hM56_4 := hM56.ext hDd31
                        have hF61_4 := hF61.ext hDd31
                        have hN61_4 := hN61.ext hDd31
                        refine PW_m rfl rfl (ev_call rfl (StartStates_spec _ m _ A _ hM96 (by omega) (by omega) hN98 (by omega) (by omega))) ?_
                        rintro _ w99 ⟨a99, c99, y99, q99, rfl, hr99, hO99, hl99, hE99⟩
                        have hz99 := hE99.size
                        replace hE := hE.trans hE99
                        replace hDd31 := hDd31.trans hE99
                        replace hF96 := hF96.ext hE99
                        replace hM96 := hM96.ext hE99
                        replace hF98 := hF98.ext hE99
                        replace hN98 := hN98.ext hE99
                        refine ⟨hDd31, ?_⟩
                        refine PW_q rfl rfl (fun wq hq => ev_move rfl) ?_
                        refine PW_q rfl rfl (fun wq hq => ev_extract rfl rfl) ?_
                        refine PW_q rfl rfl (fun wq hq => ev_extract rfl rfl) ?_
                        refine PW_q rfl rfl (fun wq hq => ev_assign rfl) ?_
                        refine PW_q rfl rfl (fun wq hq => ev_assign rfl) ?_
                        replace hm := hm.ext hDd31
                        replace hA := hA.ext hDd31
                        replace hB2 := hB2.ext hDd31
                        replace hB3 := hB3.ext hDd31
                        replace hF29 := hF29.ext hDd31
                        replace hM29 := hM29.ext hDd31
                        replace hF31 := hF31.ext hDd31
                        replace hN31 := hN31.ext hDd31
                        replace hx32 := hx32.ext hDd31
                        replace hB8 := hB8.ext hDd31
                        replace hB9 := hB9.ext hDd31
                        replace hO42 := hO42.ext hDd31
                        replace hF56 := hF56.ext hDd31
                        replace hM56 := hM56.ext hDd31
                        replace hF61 := hF61.ext hDd31
                        replace hN61 := hN61.ext hDd31
                        refine PW_nil ?_
                        refine thenE_n ?_
                        refine W_seq ?_
                        refine W_seq ?_
                        refine W_region ?_
                        refine WL_q rfl (ev_move rfl) ?_
                        refine WL_q rfl (ev_move rfl) ?_
                        refine WL_m rfl (ev_call rfl (eqIntS_spec _ _ _ _ y99 y32 _ (ownt_i hO99) hx32 (by omega))) ?_
                        rintro _ w104 ⟨rfl, hE104⟩
                        have hz104 := hE104.size
                        replace hE := hE.trans hE104
                        replace hm := hm.ext hE104
                        replace hA := hA.ext hE104
                        replace hB2 := hB2.ext hE104
                        replace hB3 := hB3.ext hE104
                        replace hF29 := hF29.ext hE104
                        replace hM29 := hM29.ext hE104
                        replace hF31 := hF31.ext hE104
                        replace hN31 := hN31.ext hE104
                        replace hx32 := hx32.ext hE104
                        replace hB8 := hB8.ext hE104
                        replace hB9 := hB9.ext hE104
                        replace hO42 := hO42.ext hE104
                        replace hF56 := hF56.ext hE104
                        replace hM56 := hM56.ext hE104
                        replace hF61 := hF61.ext hE104
                        replace hN61 := hN61.ext hE104
                        replace hF96 := hF96.ext hE104
                        replace hM96 := hM96.ext hE104
                        replace hF98 := hF98.ext hE104
                        replace hN98 := hN98.ext hE104
                        replace hO99 := hO99.ext hE104
                        refine WL_q rfl (ev_not rfl) ?_
                        refine WL_q rfl (ev_move rfl) ?_
                        refine WL_splitv (t := 106) rfl (fun hg105 => ?_) (fun hg105 => ?_)
                        · have hg104 := not_true hg105
                          refine WL_no rfl rfl hg105 rfl ?_
                          refine WL_no rfl rfl hg105 rfl ?_
                          refine WL_no rfl rfl hg105 rfl ?_
                          refine WL_q rfl (ev_pick_t rfl hg105 rfl) ?_
                          refine WL_nil ?_
                          refine thenE_n ?_
                          refine W_cond_t rfl ?_
                          refine W_seq ?_
                          refine W_region ?_
                          refine WL_q rfl (ev_assign rfl) ?_
                          refine WL_nil ?_
                          refine thenE_n ?_
                          refine W_ret ?_
                          refine thenE_r ?_
                          refine ret1 rfl rfl ?_
                          first | (exact ⟨rfl, hE⟩) | (exact (bneE hg104 (hr99.det1 hr32)).elim) | (exact absurd (hr99.det1 hr32) hp104) | (exact absurd (hr99.det1 hr32) (of_decide_eq_false hg104)) | (exact (bneE hg104 (hr99.det2 hr32)).elim) | (exact absurd (hr99.det2 hr32) hp104) | (exact absurd (hr99.det2 hr32) (of_decide_eq_false hg104)) | (exact (bneE hg104 (hr99.det3 hr32)).elim) | (exact absurd (hr99.det3 hr32) hp104) | (exact absurd (hr99.det3 hr32) (of_decide_eq_false hg104)) | (exact (bneE hg104 (hr42.det1 hr32)).elim) | (exact absurd (hr42.det1 hr32) hp104) | (exact absurd (hr42.det1 hr32) (of_decide_eq_false hg104)) | (exact (bneE hg104 (hr42.det2 hr32)).elim) | (exact absurd (hr42.det2 hr32) hp104) | (exact absurd (hr42.det2 hr32) (of_decide_eq_false hg104)) | (exact (bneE hg104 (hr42.det3 hr32)).elim) | (exact absurd (hr42.det3 hr32) hp104) | (exact absurd (hr42.det3 hr32) (of_decide_eq_false hg104)) | (exact (tfX hg104).elim) | (exact (decF hg104).elim) | (exfalso; omega)
                        · have hg104 := not_false hg105
                          refine WL_qg rfl rfl hg105 rfl (ev_move rfl) ?_
                          refine WL_qg rfl rfl hg105 rfl (ev_move rfl) ?_
                          refine WL_qg rfl rfl hg105 rfl (ev_neq_b Try.underlying4 rfl rfl) ?_
                          refine WL_q rfl (ev_pick_f rfl hg105 rfl) ?_
                          refine WL_nil ?_
                          refine thenE_n ?_
                          refine W_cond rfl (fun hg109 => ?_) (fun hg109 => ?_)
                          · refine W_seq ?_
                            refine W_region ?_
                            refine WL_q rfl (ev_assign rfl) ?_
                            refine WL_nil ?_
                            refine thenE_n ?_
                            refine W_ret ?_
                            refine thenE_r ?_
                            refine ret1 rfl rfl ?_
                            first | (exact ⟨rfl, hE⟩) | (exact (bneE hg109 (hr99.det1 hr32)).elim) | (exact absurd (hr99.det1 hr32) hp109) | (exact absurd (hr99.det1 hr32) (of_decide_eq_false hg109)) | (exact (bneE hg109 (hr99.det2 hr32)).elim) | (exact absurd (hr99.det2 hr32) hp109) | (exact absurd (hr99.det2 hr32) (of_decide_eq_false hg109)) | (exact (bneE hg109 (hr99.det3 hr32)).elim) | (exact absurd (hr99.det3 hr32) hp109) | (exact absurd (hr99.det3 hr32) (of_decide_eq_false hg109)) | (exact (bneE hg109 (hr42.det1 hr32)).elim) | (exact absurd (hr42.det1 hr32) hp109) | (exact absurd (hr42.det1 hr32) (of_decide_eq_false hg109)) | (exact (bneE hg109 (hr42.det2 hr32)).elim) | (exact absurd (hr42.det2 hr32) hp109) | (exact absurd (hr42.det2 hr32) (of_decide_eq_false hg109)) | (exact (bneE hg109 (hr42.det3 hr32)).elim) | (exact absurd (hr42.det3 hr32) hp109) | (exact absurd (hr42.det3 hr32) (of_decide_eq_false hg109)) | (exact (tfX hg109).elim) | (exact (decF hg109).elim) | (exfalso; omega)
                          · refine W_skip ?_
                            refine thenE_n ?_
                            refine W_seq ?_
                            refine W_region ?_
                            refine WL_q rfl (ev_assign rfl) ?_
                            refine WL_nil ?_
                            refine thenE_n ?_
                            refine W_seq ?_
                            refine W_region ?_
                            refine WL_q rfl (ev_move rfl) ?_
                            refine WL_q rfl (ev_move rfl) ?_
                            refine WL_m rfl (ev_call rfl (heldIntS_spec _ _ (nums 1 y42.length) _ _ (Ints.of_own (nums_len _ _) hO42.1) rfl (by omega) (by omega))) ?_
                            rintro _ w113 ⟨rfl, hE113⟩
                            have hz113 := hE113.size
                            replace hE := hE.trans hE113
                            replace hm := hm.ext hE113
                            replace hA := hA.ext hE113
                            replace hB2 := hB2.ext hE113
                            replace hB3 := hB3.ext hE113
                            replace hF29 := hF29.ext hE113
                            replace hM29 := hM29.ext hE113
                            replace hF31 := hF31.ext hE113
                            replace hN31 := hN31.ext hE113
                            replace hx32 := hx32.ext hE113
                            replace hB8 := hB8.ext hE113
                            replace hB9 := hB9.ext hE113
                            replace hO42 := hO42.ext hE113
                            replace hF56 := hF56.ext hE113
                            replace hM56 := hM56.ext hE113
                            replace hF61 := hF61.ext hE113
                            replace hN61 := hN61.ext hE113
                            replace hF96 := hF96.ext hE113
                            replace hM96 := hM96.ext hE113
                            replace hF98 := hF98.ext hE113
                            replace hN98 := hN98.ext hE113
                            replace hO99 := hO99.ext hE113
                            refine WL_q rfl (ev_assign rfl) ?_
                            refine WL_nil ?_
                            refine thenE_n ?_
                            refine W_seq ?_
                            refine W_seq ?_
                            refine W_region ?_
                            refine WL_q rfl (ev_move rfl) ?_
                            refine WL_q rfl (ev_lss rfl rfl) ?_
                            refine WL_nil ?_
                            refine thenE_n ?_
                            refine W_cond rfl (fun hg115 => ?_) (fun hg115 => ?_)
                            · have hp115 := of_decide_eq_true hg115
                              refine W_seq ?_
                              refine W_region ?_
                              refine WL_q rfl (ev_assign rfl) ?_
                              refine WL_nil ?_
                              refine thenE_n ?_
                              refine W_ret ?_
                              refine thenE_r ?_
                              refine ret1 rfl rfl ?_
                              first | (exact ⟨rfl, hE⟩) | (exact (bneE hg115 (hr99.det1 hr32)).elim) | (exact absurd (hr99.det1 hr32) hp115) | (exact absurd (hr99.det1 hr32) (of_decide_eq_false hg115)) | (exact (bneE hg115 (hr99.det2 hr32)).elim) | (exact absurd (hr99.det2 hr32) hp115) | (exact absurd (hr99.det2 hr32) (of_decide_eq_false hg115)) | (exact (bneE hg115 (hr99.det3 hr32)).elim) | (exact absurd (hr99.det3 hr32) hp115) | (exact absurd (hr99.det3 hr32) (of_decide_eq_false hg115)) | (exact (bneE hg115 (hr42.det1 hr32)).elim) | (exact absurd (hr42.det1 hr32) hp115) | (exact absurd (hr42.det1 hr32) (of_decide_eq_false hg115)) | (exact (bneE hg115 (hr42.det2 hr32)).elim) | (exact absurd (hr42.det2 hr32) hp115) | (exact absurd (hr42.det2 hr32) (of_decide_eq_false hg115)) | (exact (bneE hg115 (hr42.det3 hr32)).elim) | (exact absurd (hr42.det3 hr32) hp115) | (exact absurd (hr42.det3 hr32) (of_decide_eq_false hg115)) | (exact (tfX hg115).elim) | (exact (decF hg115).elim) | (exfalso; omega)
                            · have hp115 := of_decide_eq_false hg115
                              refine W_skip ?_
                              refine thenE_n ?_
                              refine W_seq ?_
                              refine W_seq ?_
                              refine W_region ?_
                              refine WL_q rfl (ev_move rfl) ?_
                              refine WL_q rfl (ev_move rfl) ?_
                              refine WL_q rfl (ev_neq rfl rfl) ?_
                              refine WL_nil ?_
                              refine thenE_n ?_
                              refine W_cond rfl (fun hg118 => ?_) (fun hg118 => ?_)
                              · have hp118 := of_decide_eq_true hg118
                                refine W_seq ?_
                                refine W_region ?_
                                refine WL_q rfl (ev_assign rfl) ?_
                                refine WL_nil ?_
                                refine thenE_n ?_
                                refine W_ret ?_
                                refine thenE_r ?_
                                refine ret1 rfl rfl ?_
                                first | (exact ⟨rfl, hE⟩) | (exact (bneE hg118 (hr99.det1 hr32)).elim) | (exact absurd (hr99.det1 hr32) hp118) | (exact absurd (hr99.det1 hr32) (of_decide_eq_false hg118)) | (exact (bneE hg118 (hr99.det2 hr32)).elim) | (exact absurd (hr99.det2 hr32) hp118) | (exact absurd (hr99.det2 hr32) (of_decide_eq_false hg118)) | (exact (bneE hg118 (hr99.det3 hr32)).elim) | (exact absurd (hr99.det3 hr32) hp118) | (exact absurd (hr99.det3 hr32) (of_decide_eq_false hg118)) | (exact (bneE hg118 (hr42.det1 hr32)).elim) | (exact absurd (hr42.det1 hr32) hp118) | (exact absurd (hr42.det1 hr32) (of_decide_eq_false hg118)) | (exact (bneE hg118 (hr42.det2 hr32)).elim) | (exact absurd (hr42.det2 hr32) hp118) | (exact absurd (hr42.det2 hr32) (of_decide_eq_false hg118)) | (exact (bneE hg118 (hr42.det3 hr32)).elim) | (exact absurd (hr42.det3 hr32) hp118) | (exact absurd (hr42.det3 hr32) (of_decide_eq_false hg118)) | (exact (tfX hg118).elim) | (exact (decF hg118).elim) | (exfalso; omega)
                              · have hp118 := of_decide_eq_false hg118
                                refine W_skip ?_
                                refine thenE_n ?_
                                refine W_seq ?_
                                refine W_region ?_
                                refine WL_q rfl (ev_assign rfl) ?_
                                refine WL_nil ?_
                                refine thenE_n ?_
                                refine W_ret ?_
                                refine ret1 rfl rfl ?_
                                first | (exact ⟨rfl, hE⟩) | (exact (bneE hg118 (hr99.det1 hr32)).elim) | (exact absurd (hr99.det1 hr32) hp118) | (exact absurd (hr99.det1 hr32) (of_decide_eq_false hg118)) | (exact (bneE hg118 (hr99.det2 hr32)).elim) | (exact absurd (hr99.det2 hr32) hp118) | (exact absurd (hr99.det2 hr32) (of_decide_eq_false hg118)) | (exact (bneE hg118 (hr99.det3 hr32)).elim) | (exact absurd (hr99.det3 hr32) hp118) | (exact absurd (hr99.det3 hr32) (of_decide_eq_false hg118)) | (exact (bneE hg118 (hr42.det1 hr32)).elim) | (exact absurd (hr42.det1 hr32) hp118) | (exact absurd (hr42.det1 hr32) (of_decide_eq_false hg118)) | (exact (bneE hg118 (hr42.det2 hr32)).elim) | (exact absurd (hr42.det2 hr32) hp118) | (exact absurd (hr42.det2 hr32) (of_decide_eq_false hg118)) | (exact (bneE hg118 (hr42.det3 hr32)).elim) | (exact absurd (hr42.det3 hr32) hp118) | (exact absurd (hr42.det3 hr32) (of_decide_eq_false hg118)) | (exact (tfX hg118).elim) | (exact (decF hg118).elim) | (exfalso; omega)

end Go.Proofs.Ytebjcbgencenbaa
