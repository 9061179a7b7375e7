/- Contracts of RunMachine, of the program and of the reference; the walk of its law. -/
import Derived.Test.YtebjcbgencenbaaBoxes
namespace Go.Proofs.Ytebjcbgencenbaa
open Go Go.RowKit

/-- The states of all rounds up to k. -/
noncomputable def runL (m : Mach) (A : Net) (k : Nat) : List (List Int) := (List.range (k + 1)).map (stN m A)
theorem runL_len (m : Mach) (A : Net) (k : Nat) : (runL m A k).length = k + 1 := by simp [runL]
theorem runL_zero (m : Mach) (A : Net) : [stS m A] = runL m A 0 := rfl
theorem runL_at {m : Mach} {A : Net} {k i : Nat} (h : i < (runL m A k).length) : (runL m A k)[i] = stN m A i := by simp [runL]
theorem runL_snoc {m : Mach} {A : Net} {k : Nat} : runL m A k ++ [stepS m A (stN m A k)] = runL m A (k + 1) := by
  unfold runL
  rw [List.range_succ (n := k + 1), List.map_append]
  rfl
theorem runL_tot {m : Mach} {A : Net} {k : Nat} (h : A.ends.length ≤ 40) (hk : k ≤ 40) : sumL (runL m A k) ≤ 1048576 ∧ (runL m A k).length ≤ 1048576 ∧ totL (runL m A k) ≤ 1048576 := by
  have h1 : sumL (runL m A k) ≤ (runL m A k).length * 40 := sumL_bd fun x hx => by
    obtain ⟨i, hi, rfl⟩ := List.mem_iff_getElem.1 hx
    rw [runL_at, stN_len]; exact h
  have h2 := runL_len m A k
  have h3 := totL_sum (runL m A k)
  omega
theorem run_row {m : Mach} {A : Net} {k l r c : Nat} {w : World} {E F : TypeId} {a : Option Addr} (h : RowsF l r w E F a c (runL m A k)) : ∃ a9 c9, w.cell? ⟨blkOf a, offOf a + k * 1, none⟩ = some (.slice a9 (stN m A k).length c9) ∧ Ints l r w a9 c9 (stN m A k) := by
  have hk : k < (runL m A k).length := by rw [runL_len]; omega
  obtain ⟨a9, c9, h1, h2⟩ := h.is.row hk
  rw [runL_at] at h1 h2
  exact ⟨a9, c9, h1, h2⟩
theorem own_off {lo n c : Nat} {w : World} {E : TypeId} {a : Option Addr} {cs : List Value} {sz : Nat} (h : Own lo w E sz a n c cs) : offOf a = 0 := by
  rcases h.2 with ⟨hv, _⟩ | ⟨g, cap, cur, hv, _⟩
  · cases hv; rfl
  · cases hv; rfl

set_option maxHeartbeats 4000000 in
set_option maxRecDepth 100000 in
theorem runOf_spec {lom him : Nat} (nm : MA) (m : Mach) {loA hiA : Nat} (nA : NA) (A : Net) (k : Int) (w : World) (hm : IsMach lom him w nm m) (hhim : him ≤ w.heap.size) (hnm : totM m ≤ 1048576) (hA : IsNet loA hiA w nA A) (hhiA : hiA ≤ w.heap.size) (hnA : totN A ≤ 1048576) (hf : Fits m A) (hk0 : 0 ≤ k ∧ k ≤ 40) :
    Fn Try.prog 75 #[machV nm m, netV nA A, VI k] w (fun v w' => ∃ a' c', v = .slice a' (runL m A k.toNat).length c' ∧ RowsF w.heap.size w'.heap.size w' 3 24 a' c' (runL m A k.toNat) ∧ Ext w w') := by
  have hmm : totL m.start + totL m.send + totC m.clauses + m.output.length ≤ 1048576 := hnm
  have hqA := totL_len A.ends
  have hmA : totL A.ends + A.ids.length + A.inputs.length ≤ 1048576 := hnA
  have hnd := hf.2.1.nodes
  have hs0 := stS_len m A
  have hE := Ext.refl w
  refine Fn_of Try.func75 rfl rfl (by kernel_rfl) rfl ?_
  refine W_seq ?_
  refine W_region ?_
  refine WL_m rfl (ev_box rfl) ?_
  rintro _ w3 ⟨rfl, hN3⟩
  have hz3 := hN3.size
  replace hE := hE.trans hN3.ext
  replace hm := hm.ext hN3.ext
  replace hA := hA.ext hN3.ext
  have hB3 : Blk w3 _ _ [_, _, _, _, _, _, _] := hN3.blk
  refine WL_m rfl (ev_box rfl) ?_
  rintro _ w4 ⟨rfl, hN4⟩
  have hz4 := hN4.size
  replace hE := hE.trans hN4.ext
  replace hm := hm.ext hN4.ext
  replace hA := hA.ext hN4.ext
  replace hB3 := hB3.ext hN4.ext
  have hB4 : Blk w4 _ _ [_, _, _] := hN4.blk
  refine WL_q rfl (ev_assign rfl) ?_
  refine WL_nil ?_
  refine thenE_n ?_
  refine W_seq ?_
  refine W_region ?_
  refine WL_q rfl (ev_loads st36 sz36 rfl (cellsB hB3) rfl) ?_
  refine WL_q rfl (ev_loads st40 sz40 rfl (cellsB hB4) rfl) ?_
  refine WL_m rfl (ev_call rfl (startStates_spec _ m _ A _ hm (by omega) (by omega) hA (by omega) (by omega) (by assumption))) ?_
  rintro _ w11 ⟨a11, c11, rfl, hO11, hE11⟩
  have hz11 := hE11.size
  replace hE := hE.trans hE11
  replace hm := hm.ext hE11
  replace hA := hA.ext hE11
  replace hB3 := hB3.ext hE11
  replace hB4 := hB4.ext hE11
  have ht11 := hO11.otop
  refine WL_m rfl (ev_lit1 Try.underlying22 el24 (by decide) (by decide) rfl rfl) ?_
  rintro _ w12 ⟨rfl, hN12⟩
  have hz12 := hN12.size
  replace hE := hE.trans hN12.ext
  replace hm := hm.ext hN12.ext
  replace hA := hA.ext hN12.ext
  replace hB3 := hB3.ext hN12.ext
  replace hB4 := hB4.ext hN12.ext
  replace hO11 := hO11.ext hN12.ext
  have hB12 := hN12.blk
  refine WL_q rfl (ev_assign rfl) ?_
  refine WL_nil ?_
  refine thenE_n ?_
  refine W_seq ?_
  refine W_seq ?_
  refine W_region ?_
  refine WL_q rfl (ev_move rfl) ?_
  refine WL_q rfl (ev_move rfl) ?_
  refine WL_nil ?_
  refine thenE_n ?_
  refine W_block ?_
  have hR := RowsF.lit (l := w4.heap.size) (F := 24) hB12 (by omega) hO11 (by omega) (fun p hp => ht11 p hp) rfl
  rw [runL_zero] at hR
  refine W_loopC (G := Nat × Option Addr × Nat) [(3, _), (4, _), (13, _)] ((Subs.c rfl (Subs.c rfl (Subs.c rfl Subs.n)))) (fun ⟨i, a, c⟩ => [(7, .slice a (runL m A i).length c), (14, VI (i : Int))]) (fun ⟨i, a, c⟩ w' => Lo (w4.heap.size) w12 w' ∧ (i : Int) ≤ k ∧ RowsF w4.heap.size w'.heap.size w' 3 24 a c (runL m A i)) (fun g => k.toNat - g.1) (0, _, _) ((Subs.c (lkS rfl (by rw [runL_len])) (Subs.c (lkI rfl (by omega)) Subs.n))) (⟨Lo.refl (by omega), ⟨by omega, hR.up (by omega)⟩⟩) ?_
  rintro ⟨i, a, c⟩ wL0 ⟨hRL0, hi', hR⟩
  have hzL0 := hRL0.size
  replace hm := hm.lo hRL0 (by omega)
  replace hA := hA.lo hRL0 (by omega)
  replace hB3 := hB3.lo hRL0 (by omega)
  replace hB4 := hB4.lo hRL0 (by omega)
  replace hE := hE.lo hRL0 (by omega)
  have hrl := runL_len m A i
  obtain ⟨a9, c9, hc9, hr9⟩ := run_row hR
  have hso9 := stN_ok (by assumption : Fits m A) i
  have hsl := stN_len m A i
  refine W_seq ?_
  refine W_region ?_
  refine WL_q rfl (ev_lss rfl rfl) ?_
  refine WL_nil ?_
  refine thenE_n ?_
  refine W_seq ?_
  refine W_cond rfl (fun hg15 => ?_) (fun hg15 => ?_)
  · have hp15 := of_decide_eq_true hg15
    refine W_skip ?_
    refine thenE_n ?_
    refine W_seq ?_
    refine W_block ?_
    refine W_seq ?_
    refine W_region ?_
    refine WL_q rfl (ev_move rfl) ?_
    refine WL_q rfl (ev_assign rfl) ?_
    refine WL_nil ?_
    refine thenE_n ?_
    refine W_drawR w4.heap.size wL0.heap.size 0 0 (fun w' => w'.cell? ⟨blkOf a, offOf a + (i : Int).toNat * 1, none⟩ = some (.slice a9 (stN m A i).length c9)) [(0, true), (1, true), (2, true), (3, true), (4, true), (5, true), (6, true), (7, false), (8, false), (9, false), (10, true)] mixed (by kernel_rfl) rfl (by kernel_rfl) (fun wd hwd => hwd.cell hc9) ?_
    intro wd5 hEd5 hzd5
    replace hE := hE.trans hEd5
    replace hRL0 := hRL0.trans hEd5
    replace hm := hm.ext hEd5
    replace hA := hA.ext hEd5
    replace hB3 := hB3.ext hEd5
    replace hB4 := hB4.ext hEd5
    replace hR := hR.ext hEd5
    replace hr9 := hr9.ext hEd5
    have hcX := hEd5.cell hc9
    have hDd5 := (Rg.refl : Rg w4.heap.size wL0.heap.size 0 0 wd5 wd5)
    refine PW_q rfl rfl (fun wq hq => ev_move rfl) ?_
    refine PW_q rfl rfl (fun wq hq => ev_loads st36 sz36 rfl (cellsB (hB3.rg hq.1 (by omega))) rfl) ?_
    refine PW_q rfl rfl (fun wq hq => ev_loads st40 sz40 rfl (cellsB (hB4.rg hq.1 (by omega))) rfl) ?_
    refine PW_q rfl rfl (fun wq hq => ev_move rfl) ?_
    refine PW_q rfl rfl (fun wq hq => ev_move rfl) ?_
    refine PW_q rfl rfl (fun wq hq => ev_indexAddr Try.underlying22 sz24 rfl rfl ((hR.is).isSome (by omega)) (by omega) (by omega)) ?_
    refine PW_q rfl rfl (fun wq hq => ev_load one24 rfl hq.2) ?_
    refine PW_m rfl rfl (ev_call rfl (stepStates_spec _ m _ A _ _ (stN m A i) _ hm (by omega) (by omega) hA (by omega) (by omega) hr9 (by omega) (by omega) (by assumption) (by assumption))) ?_
    rintro _ w24 ⟨a24, c24, rfl, hO24, hE24⟩
    have hz24 := hE24.size
    replace hE := hE.trans hE24
    replace hRL0 := hRL0.trans hE24
    replace hDd5 := hDd5.trans hE24
    replace hR := hR.ext hE24
    replace hr9 := hr9.ext hE24
    replace hcX := hE24.cell hcX
    refine ⟨⟨hDd5, hcX⟩, ?_⟩
    have hm_8 := hm.rg hDd5 (by omega)
    have hA_8 := hA.rg hDd5 (by omega)
    have hB3_8 := hB3.rg hDd5 (by omega)
    have hB4_8 := hB4.rg hDd5 (by omega)
    refine PW_m rfl rfl (ev_lit1 Try.underlying22 el24 (by decide) (by decide) rfl rfl) ?_
    rintro _ w25 ⟨rfl, hN25⟩
    have hz25 := hN25.size
    replace hE := hE.trans hN25.ext
    replace hRL0 := hRL0.trans hN25.ext
    replace hDd5 := hDd5.trans hN25.ext
    replace hR := hR.ext hN25.ext
    replace hr9 := hr9.ext hN25.ext
    replace hO24 := hO24.ext hN25.ext
    have hB25 := hN25.blk
    replace hcX := hN25.ext.cell hcX
    refine ⟨⟨hDd5, hcX⟩, ?_⟩
    have hm_9 := hm.rg hDd5 (by omega)
    have hA_9 := hA.rg hDd5 (by omega)
    have hB3_9 := hB3.rg hDd5 (by omega)
    have hB4_9 := hB4.rg hDd5 (by omega)
    obtain ⟨vs26, hA26⟩ := hR
    have hP26 := hA26.out
    refine PW_m rfl rfl (ev_appendC Try.underlying22 el24 rfl (by decide) rfl rfl hP26 (SAt.of_blk (cs := [_]) (ds := []) hB25) rfl (by simp [Value.oneCell']) (by decide) (by omega) (by unfold maxLen; omega) (by omega)) ?_
    rintro _ w26 ⟨⟨a26, c26, rfl, hO26, hK26, hQ26⟩, hCC26⟩
    have hz26 := hK26.size
    replace hE := hE.app hK26 (fun q hq => by have h1 := (hP26.block q hq).1; have h2 := hA26.otop q hq; omega)
    replace hRL0 := hRL0.app hK26 (fun q hq => by have h1 := (hP26.block q hq).1; have h2 := hA26.otop q hq; omega)
    replace hDd5 := hDd5.app hK26 (fun q hq => by have h1 := (hP26.block q hq).1; have h2 := hA26.otop q hq; omega)
    have hP26 := hO26
    have hR := rowsf_snoc hA26 hO24 (by omega) (by omega) hK26 hP26 rfl hQ26 (by omega)
    replace hcX := hCC26 _ _ _ hcX (fun q hq e => by rw [own_off hA26.out]; omega)
    refine ⟨⟨hDd5, hcX⟩, ?_⟩
    refine PW_q rfl rfl (fun wq hq => ev_assign rfl) ?_
    replace hm := hm.rg hDd5 (by omega)
    replace hA := hA.rg hDd5 (by omega)
    replace hB3 := hB3.rg hDd5 (by omega)
    replace hB4 := hB4.rg hDd5 (by omega)
    refine PW_nil ?_
    refine blockE_n ?_
    refine thenE_n ?_
    refine W_region ?_
    refine WL_q rfl (ev_add rfl rfl (by omega)) ?_
    refine WL_q rfl (ev_move rfl) ?_
    refine WL_nil ?_
    refine thenE_n ?_
    exact ⟨(i + 1, a26, c26), (Subs.c rfl (Subs.c rfl (Subs.c rfl Subs.n))), (Subs.c (lkS rfl (by rw [runL_len, runL_len])) (Subs.c (lkI rfl (by omega)) Subs.n)), ⟨hRL0, ⟨by omega, hR.to runL_snoc⟩⟩, by first | omega | (dsimp only; omega)⟩
  · have hp15 := of_decide_eq_false hg15
    refine W_exit ?_
    refine thenE_x ?_
    refine thenE_x ?_
    refine blockE_hit ?_
    refine thenE_n ?_
    refine W_seq ?_
    refine W_region ?_
    refine WL_q rfl (ev_move rfl) ?_
    refine WL_q rfl (ev_assign rfl) ?_
    refine WL_nil ?_
    refine thenE_n ?_
    refine W_ret ?_
    refine ret1 rfl rfl ?_
    have hi9 : i = k.toNat := by omega
    subst hi9
    exact ⟨_, _, rfl, (by obtain ⟨vs, h⟩ := hR; exact ⟨vs, h.low (by omega)⟩), hE⟩

set_option maxHeartbeats 4000000 in
set_option maxRecDepth 100000 in
theorem maRun_spec {lom him : Nat} (nm : MA) (m : Mach) {loA hiA : Nat} (nA : NA) (A : Net) (k : Int) (w : World) (hm : IsMach lom him w nm m) (hhim : him ≤ w.heap.size) (hnm : totM m ≤ 1048576) (hA : IsNet loA hiA w nA A) (hhiA : hiA ≤ w.heap.size) (hnA : totN A ≤ 1048576) (hf : Fits m A) (hk0 : 0 ≤ k ∧ k ≤ 40) :
    Fn Try.prog 73 #[machV nm m, netV nA A, VI k] w (fun v w' => ∃ a' c', v = .slice a' (runL m A k.toNat).length c' ∧ RowsF w.heap.size w'.heap.size w' 3 24 a' c' (runL m A k.toNat) ∧ Ext w w') := by
  have hmm : totL m.start + totL m.send + totC m.clauses + m.output.length ≤ 1048576 := hnm
  have hqA := totL_len A.ends
  have hmA : totL A.ends + A.ids.length + A.inputs.length ≤ 1048576 := hnA
  have hnd := hf.2.1.nodes
  have hs0 := stS_len m A
  have hE := Ext.refl w
  refine Fn_of Try.func73 rfl rfl (by kernel_rfl) rfl ?_
  refine W_seq ?_
  refine W_region ?_
  refine WL_m rfl (ev_box rfl) ?_
  rintro _ w3 ⟨rfl, hN3⟩
  have hz3 := hN3.size
  replace hE := hE.trans hN3.ext
  replace hm := hm.ext hN3.ext
  replace hA := hA.ext hN3.ext
  have hB3 : Blk w3 _ _ [_, _, _, _, _, _, _] := hN3.blk
  refine WL_m rfl (ev_box rfl) ?_
  rintro _ w4 ⟨rfl, hN4⟩
  have hz4 := hN4.size
  replace hE := hE.trans hN4.ext
  replace hm := hm.ext hN4.ext
  replace hA := hA.ext hN4.ext
  replace hB3 := hB3.ext hN4.ext
  have hB4 : Blk w4 _ _ [_, _, _] := hN4.blk
  refine WL_q rfl (ev_assign rfl) ?_
  refine WL_nil ?_
  refine thenE_n ?_
  refine W_seq ?_
  refine W_region ?_
  refine WL_q rfl (ev_loads st36 sz36 rfl (cellsB hB3) rfl) ?_
  refine WL_q rfl (ev_loads st40 sz40 rfl (cellsB hB4) rfl) ?_
  refine WL_m rfl (ev_call rfl (maStart_spec _ m _ A _ hm (by omega) (by omega) hA (by omega) (by omega) (by assumption))) ?_
  rintro _ w11 ⟨a11, c11, rfl, hO11, hE11⟩
  have hz11 := hE11.size
  replace hE := hE.trans hE11
  replace hm := hm.ext hE11
  replace hA := hA.ext hE11
  replace hB3 := hB3.ext hE11
  replace hB4 := hB4.ext hE11
  have ht11 := hO11.otop
  refine WL_m rfl (ev_lit1 Try.underlying22 el24 (by decide) (by decide) rfl rfl) ?_
  rintro _ w12 ⟨rfl, hN12⟩
  have hz12 := hN12.size
  replace hE := hE.trans hN12.ext
  replace hm := hm.ext hN12.ext
  replace hA := hA.ext hN12.ext
  replace hB3 := hB3.ext hN12.ext
  replace hB4 := hB4.ext hN12.ext
  replace hO11 := hO11.ext hN12.ext
  have hB12 := hN12.blk
  refine WL_q rfl (ev_assign rfl) ?_
  refine WL_nil ?_
  refine thenE_n ?_
  refine W_seq ?_
  refine W_seq ?_
  refine W_region ?_
  refine WL_q rfl (ev_assign rfl) ?_
  refine WL_nil ?_
  refine thenE_n ?_
  refine W_block ?_
  have hR := RowsF.lit (l := w4.heap.size) (F := 24) hB12 (by omega) hO11 (by omega) (fun p hp => ht11 p hp) rfl
  rw [runL_zero] at hR
  refine W_loopC (G := Nat × Option Addr × Nat) [(2, _), (3, _), (4, _)] ((Subs.c rfl (Subs.c rfl (Subs.c rfl Subs.n)))) (fun ⟨i, a, c⟩ => [(7, .slice a (runL m A i).length c), (8, VI (i : Int))]) (fun ⟨i, a, c⟩ w' => Lo (w4.heap.size) w12 w' ∧ (i : Int) ≤ k ∧ RowsF w4.heap.size w'.heap.size w' 3 24 a c (runL m A i)) (fun g => k.toNat - g.1) (0, _, _) ((Subs.c (lkS rfl (by rw [runL_len])) (Subs.c (lkI rfl (by omega)) Subs.n))) (⟨Lo.refl (by omega), ⟨by omega, hR.up (by omega)⟩⟩) ?_
  rintro ⟨i, a, c⟩ wL0 ⟨hRL0, hi', hR⟩
  have hzL0 := hRL0.size
  replace hm := hm.lo hRL0 (by omega)
  replace hA := hA.lo hRL0 (by omega)
  replace hB3 := hB3.lo hRL0 (by omega)
  replace hB4 := hB4.lo hRL0 (by omega)
  replace hE := hE.lo hRL0 (by omega)
  have hrl := runL_len m A i
  obtain ⟨a9, c9, hc9, hr9⟩ := run_row hR
  have hso9 := stN_ok (by assumption : Fits m A) i
  have hsl := stN_len m A i
  refine W_seq ?_
  refine W_seq ?_
  refine W_region ?_
  refine WL_q rfl (ev_move rfl) ?_
  refine WL_q rfl (ev_move rfl) ?_
  refine WL_q rfl (ev_lss rfl rfl) ?_
  refine WL_nil ?_
  refine thenE_n ?_
  refine W_cond rfl (fun hg15 => ?_) (fun hg15 => ?_)
  · have hp15 := of_decide_eq_true hg15
    refine W_skip ?_
    refine thenE_n ?_
    refine W_seq ?_
    refine W_block ?_
    refine W_drawR w4.heap.size wL0.heap.size 0 0 (fun w' => w'.cell? ⟨blkOf a, offOf a + (i : Int).toNat * 1, none⟩ = some (.slice a9 (stN m A i).length c9)) [(0, true), (1, true), (2, true), (3, true), (4, true), (5, true), (6, true), (7, false), (8, false), (9, false), (10, true)] mixed (by kernel_rfl) rfl (by kernel_rfl) (fun wd hwd => hwd.cell hc9) ?_
    intro wd5 hEd5 hzd5
    replace hE := hE.trans hEd5
    replace hRL0 := hRL0.trans hEd5
    replace hm := hm.ext hEd5
    replace hA := hA.ext hEd5
    replace hB3 := hB3.ext hEd5
    replace hB4 := hB4.ext hEd5
    replace hR := hR.ext hEd5
    replace hr9 := hr9.ext hEd5
    have hcX := hEd5.cell hc9
    have hDd5 := (Rg.refl : Rg w4.heap.size wL0.heap.size 0 0 wd5 wd5)
    refine PW_q rfl rfl (fun wq hq => ev_move rfl) ?_
    refine PW_q rfl rfl (fun wq hq => ev_loads st36 sz36 rfl (cellsB (hB3.rg hq.1 (by omega))) rfl) ?_
    refine PW_q rfl rfl (fun wq hq => ev_loads st40 sz40 rfl (cellsB (hB4.rg hq.1 (by omega))) rfl) ?_
    refine PW_q rfl rfl (fun wq hq => ev_move rfl) ?_
    refine PW_q rfl rfl (fun wq hq => ev_move rfl) ?_
    refine PW_q rfl rfl (fun wq hq => ev_indexAddr Try.underlying22 sz24 rfl rfl ((hR.is).isSome (by omega)) (by omega) (by omega)) ?_
    refine PW_q rfl rfl (fun wq hq => ev_load one24 rfl hq.2) ?_
    refine PW_m rfl rfl (ev_call rfl (maStep_spec _ m _ A _ _ (stN m A i) _ hm (by omega) (by omega) hA (by omega) (by omega) hr9 (by omega) (by omega) (by assumption) (by assumption))) ?_
    rintro _ w25 ⟨a25, c25, rfl, hO25, hE25⟩
    have hz25 := hE25.size
    replace hE := hE.trans hE25
    replace hRL0 := hRL0.trans hE25
    replace hDd5 := hDd5.trans hE25
    replace hR := hR.ext hE25
    replace hr9 := hr9.ext hE25
    replace hcX := hE25.cell hcX
    refine ⟨⟨hDd5, hcX⟩, ?_⟩
    have hm_8 := hm.rg hDd5 (by omega)
    have hA_8 := hA.rg hDd5 (by omega)
    have hB3_8 := hB3.rg hDd5 (by omega)
    have hB4_8 := hB4.rg hDd5 (by omega)
    refine PW_m rfl rfl (ev_lit1 Try.underlying22 el24 (by decide) (by decide) rfl rfl) ?_
    rintro _ w26 ⟨rfl, hN26⟩
    have hz26 := hN26.size
    replace hE := hE.trans hN26.ext
    replace hRL0 := hRL0.trans hN26.ext
    replace hDd5 := hDd5.trans hN26.ext
    replace hR := hR.ext hN26.ext
    replace hr9 := hr9.ext hN26.ext
    replace hO25 := hO25.ext hN26.ext
    have hB26 := hN26.blk
    replace hcX := hN26.ext.cell hcX
    refine ⟨⟨hDd5, hcX⟩, ?_⟩
    have hm_9 := hm.rg hDd5 (by omega)
    have hA_9 := hA.rg hDd5 (by omega)
    have hB3_9 := hB3.rg hDd5 (by omega)
    have hB4_9 := hB4.rg hDd5 (by omega)
    obtain ⟨vs27, hA27⟩ := hR
    have hP27 := hA27.out
    refine PW_m rfl rfl (ev_appendC Try.underlying22 el24 rfl (by decide) rfl rfl hP27 (SAt.of_blk (cs := [_]) (ds := []) hB26) rfl (by simp [Value.oneCell']) (by decide) (by omega) (by unfold maxLen; omega) (by omega)) ?_
    rintro _ w27 ⟨⟨a27, c27, rfl, hO27, hK27, hQ27⟩, hCC27⟩
    have hz27 := hK27.size
    replace hE := hE.app hK27 (fun q hq => by have h1 := (hP27.block q hq).1; have h2 := hA27.otop q hq; omega)
    replace hRL0 := hRL0.app hK27 (fun q hq => by have h1 := (hP27.block q hq).1; have h2 := hA27.otop q hq; omega)
    replace hDd5 := hDd5.app hK27 (fun q hq => by have h1 := (hP27.block q hq).1; have h2 := hA27.otop q hq; omega)
    have hP27 := hO27
    have hR := rowsf_snoc hA27 hO25 (by omega) (by omega) hK27 hP27 rfl hQ27 (by omega)
    replace hcX := hCC27 _ _ _ hcX (fun q hq e => by rw [own_off hA27.out]; omega)
    refine ⟨⟨hDd5, hcX⟩, ?_⟩
    refine PW_q rfl rfl (fun wq hq => ev_assign rfl) ?_
    replace hm := hm.rg hDd5 (by omega)
    replace hA := hA.rg hDd5 (by omega)
    replace hB3 := hB3.rg hDd5 (by omega)
    replace hB4 := hB4.rg hDd5 (by omega)
    refine PW_nil ?_
    refine blockE_n ?_
    refine thenE_n ?_
    refine W_region ?_
    refine WL_q rfl (ev_move rfl) ?_
    refine WL_q rfl (ev_add rfl rfl (by omega)) ?_
    refine WL_q rfl (ev_assign rfl) ?_
    refine WL_nil ?_
    refine thenE_n ?_
    exact ⟨(i + 1, a27, c27), (Subs.c rfl (Subs.c rfl (Subs.c rfl Subs.n))), (Subs.c (lkS rfl (by rw [runL_len, runL_len])) (Subs.c (lkI rfl (by omega)) Subs.n)), ⟨hRL0, ⟨by omega, hR.to runL_snoc⟩⟩, by first | omega | (dsimp only; omega)⟩
  · have hp15 := of_decide_eq_false hg15
    refine W_exit ?_
    refine thenE_x ?_
    refine thenE_x ?_
    refine blockE_hit ?_
    refine thenE_n ?_
    refine W_seq ?_
    refine W_region ?_
    refine WL_q rfl (ev_move rfl) ?_
    refine WL_q rfl (ev_assign rfl) ?_
    refine WL_nil ?_
    refine thenE_n ?_
    refine W_ret ?_
    refine ret1 rfl rfl ?_
    have hi9 : i = k.toNat := by omega
    subst hi9
    exact ⟨_, _, rfl, (by obtain ⟨vs, h⟩ := hR; exact ⟨vs, h.low (by omega)⟩), hE⟩

set_option maxRecDepth 100000 in
theorem RunMachine_spec {lom him : Nat} (nm : MA) (m : Mach) {loA hiA : Nat} (nA : NA) (A : Net) (k : Int) (w : World) (hm : IsMach lom him w nm m) (hhim : him ≤ w.heap.size) (hnm : totM m ≤ 1048576) (hA : IsNet loA hiA w nA A) (hhiA : hiA ≤ w.heap.size) (hnA : totN A ≤ 1048576) :
    Fn Try.prog 36 #[machV nm m, netV nA A, VI k] w (fun o9 w' => ∃ a' c' ys q, o9 = .tuple #[.slice a' ys.length c', VB q] ∧ RV [] (opt (Fits m A ∧ inR k 0 40 = true) (runL m A k.toNat)) ys q ∧ RowsH w.heap.size w'.heap.size w' 3 a' c' ys ∧ (sumL ys ≤ 1048576 ∧ ys.length ≤ 1048576 ∧ totL ys ≤ 1048576) ∧ Ext w w') := by
  have hmm : totL m.start + totL m.send + totC m.clauses + m.output.length ≤ 1048576 := hnm
  have hqA := totL_len A.ends
  have hmA : totL A.ends + A.ids.length + A.inputs.length ≤ 1048576 := hnA
  have hE := Ext.refl w
  refine Fn_of Try.func36 rfl rfl (by kernel_rfl) rfl ?_
  refine W_seq ?_
  refine W_region ?_
  refine WL_m rfl (ev_box rfl) ?_
  rintro _ w3 ⟨rfl, hN3⟩
  have hz3 := hN3.size
  replace hE := hE.trans hN3.ext
  replace hm := hm.ext hN3.ext
  replace hA := hA.ext hN3.ext
  have hB3 : Blk w3 _ _ [_, _, _, _, _, _, _] := hN3.blk
  refine WL_m rfl (ev_box rfl) ?_
  rintro _ w4 ⟨rfl, hN4⟩
  have hz4 := hN4.size
  replace hE := hE.trans hN4.ext
  replace hm := hm.ext hN4.ext
  replace hA := hA.ext hN4.ext
  replace hB3 := hB3.ext hN4.ext
  have hB4 : Blk w4 _ _ [_, _, _] := hN4.blk
  refine WL_q rfl (ev_assign rfl) ?_
  refine WL_q rfl (ev_assign rfl) ?_
  refine WL_nil ?_
  refine thenE_n ?_
  refine W_seq ?_
  refine W_seq ?_
  refine W_region ?_
  refine WL_q rfl (ev_loads st36 sz36 rfl (cellsB hB3) rfl) ?_
  refine WL_q rfl (ev_loads st40 sz40 rfl (cellsB hB4) rfl) ?_
  refine WL_m rfl (ev_call rfl (fits_spec _ m _ A _ hm (by omega) (by omega) hA (by omega) (by omega))) ?_
  rintro _ w10 ⟨b10, rfl, hb10, hE10⟩
  have hz10 := hE10.size
  replace hE := hE.trans hE10
  replace hm := hm.ext hE10
  replace hA := hA.ext hE10
  replace hB3 := hB3.ext hE10
  replace hB4 := hB4.ext hE10
  refine WL_q rfl (ev_not rfl) ?_
  refine WL_q rfl (ev_move rfl) ?_
  refine WL_splitv (t := 12) rfl (fun hg11 => ?_) (fun hg11 => ?_)
  · have hg10 := not_true hg11
    have hp10 := ttN hb10 hg10
    refine WL_no rfl rfl hg11 rfl ?_
    refine WL_no rfl rfl hg11 rfl ?_
    refine WL_no rfl rfl hg11 rfl ?_
    refine WL_q rfl (ev_pick_t rfl hg11 rfl) ?_
    refine WL_nil ?_
    refine thenE_n ?_
    refine W_cond_t rfl ?_
    refine W_seq ?_
    refine W_region ?_
    refine WL_q rfl (ev_assign rfl) ?_
    refine WL_q rfl (ev_assign rfl) ?_
    refine WL_nil ?_
    refine thenE_n ?_
    refine W_ret ?_
    refine thenE_r ?_
    refine ret2 rfl rfl rfl ?_
    first | (exact ⟨none, 0, [], _, rfl, .no (fun h => hp10 h.1), RowsH.nil, ⟨by simp [sumL], by simp, by simp [totL]⟩, hE⟩) | (exact ⟨none, 0, [], _, rfl, .no (fun h => tf hg14 h.2), RowsH.nil, ⟨by simp [sumL], by simp, by simp [totL]⟩, hE⟩) | (exact ⟨_, _, _, _, rfl, .yes ⟨hp10, hg14⟩ rfl, hR20.h.up (by omega) (Nat.le_refl _), runL_tot (by omega) (by omega), hE⟩)
  · have hg10 := not_false hg11
    have hp10 := hb10.1 hg10
    refine WL_qg rfl rfl hg11 rfl (ev_move rfl) ?_
    refine WL_mg rfl rfl hg11 rfl (ev_call rfl (within_spec _ _ _ _)) ?_
    rintro _ _ ⟨rfl, rfl⟩
    refine WL_qg rfl rfl hg11 rfl (ev_not rfl) ?_
    refine WL_q rfl (ev_pick_f rfl hg11 rfl) ?_
    refine WL_nil ?_
    refine thenE_n ?_
    refine W_cond rfl (fun hg15 => ?_) (fun hg15 => ?_)
    · have hg14 := not_true hg15
      have hp14 := inR_false.1 hg14
      refine W_seq ?_
      refine W_region ?_
      refine WL_q rfl (ev_assign rfl) ?_
      refine WL_q rfl (ev_assign rfl) ?_
      refine WL_nil ?_
      refine thenE_n ?_
      refine W_ret ?_
      refine thenE_r ?_
      refine ret2 rfl rfl rfl ?_
      first | (exact ⟨none, 0, [], _, rfl, .no (fun h => hp10 h.1), RowsH.nil, ⟨by simp [sumL], by simp, by simp [totL]⟩, hE⟩) | (exact ⟨none, 0, [], _, rfl, .no (fun h => tf hg14 h.2), RowsH.nil, ⟨by simp [sumL], by simp, by simp [totL]⟩, hE⟩) | (exact ⟨_, _, _, _, rfl, .yes ⟨hp10, hg14⟩ rfl, hR20.h.up (by omega) (Nat.le_refl _), runL_tot (by omega) (by omega), hE⟩)
    · have hg14 := not_false hg15
      have hp14 := inR_true.1 hg14
      refine W_skip ?_
      refine thenE_n ?_
      refine W_seq ?_
      refine W_region ?_
      refine WL_q rfl (ev_loads st36 sz36 rfl (cellsB hB3) rfl) ?_
      refine WL_q rfl (ev_loads st40 sz40 rfl (cellsB hB4) rfl) ?_
      refine WL_q rfl (ev_move rfl) ?_
      have hin := inR_true.1 hg14
      have hnd := hp10.2.1.nodes
      refine WL_m rfl (ev_call rfl (runOf_spec _ m _ A _ _ hm (by omega) (by omega) hA (by omega) (by omega) (by assumption) (by omega))) ?_
      rintro _ w20 ⟨a20, c20, rfl, hR20, hE20⟩
      have hz20 := hE20.size
      replace hE := hE.trans hE20
      replace hm := hm.ext hE20
      replace hA := hA.ext hE20
      replace hB3 := hB3.ext hE20
      replace hB4 := hB4.ext hE20
      refine WL_q rfl (ev_assign rfl) ?_
      refine WL_q rfl (ev_assign rfl) ?_
      refine WL_nil ?_
      refine thenE_n ?_
      refine W_ret ?_
      refine ret2 rfl rfl rfl ?_
      first | (exact ⟨none, 0, [], _, rfl, .no (fun h => hp10 h.1), RowsH.nil, ⟨by simp [sumL], by simp, by simp [totL]⟩, hE⟩) | (exact ⟨none, 0, [], _, rfl, .no (fun h => tf hg14 h.2), RowsH.nil, ⟨by simp [sumL], by simp, by simp [totL]⟩, hE⟩) | (exact ⟨_, _, _, _, rfl, .yes ⟨hp10, hg14⟩ rfl, hR20.h.up (by omega) (Nat.le_refl _), runL_tot (by omega) (by omega), hE⟩)

set_option maxRecDepth 100000 in
theorem sRunMachine_spec {lom him : Nat} (nm : MA) (m : Mach) {loA hiA : Nat} (nA : NA) (A : Net) (k : Int) (w : World) (hm : IsMach lom him w nm m) (hhim : him ≤ w.heap.size) (hnm : totM m ≤ 1048576) (hA : IsNet loA hiA w nA A) (hhiA : hiA ≤ w.heap.size) (hnA : totN A ≤ 1048576) :
    Fn Try.prog 35 #[machV nm m, netV nA A, VI k] w (fun o9 w' => ∃ a' c' ys q, o9 = .tuple #[.slice a' ys.length c', VB q] ∧ RV [] (opt (Fits m A ∧ inR k 0 40 = true) (runL m A k.toNat)) ys q ∧ Intss 0 w'.heap.size w' a' c' ys ∧ (ys.length ≤ 1048576 ∧ totL ys ≤ 1048576) ∧ Ext w w') := by
  have hmm : totL m.start + totL m.send + totC m.clauses + m.output.length ≤ 1048576 := hnm
  have hqA := totL_len A.ends
  have hmA : totL A.ends + A.ids.length + A.inputs.length ≤ 1048576 := hnA
  have hE := Ext.refl w
  refine Fn_of Try.func35 rfl rfl (by kernel_rfl) rfl ?_
  refine W_seq ?_
  refine W_region ?_
  refine WL_m rfl (ev_box rfl) ?_
  rintro _ w3 ⟨rfl, hN3⟩
  have hz3 := hN3.size
  replace hE := hE.trans hN3.ext
  replace hm := hm.ext hN3.ext
  replace hA := hA.ext hN3.ext
  have hB3 : Blk w3 _ _ [_, _, _, _, _, _, _] := hN3.blk
  refine WL_m rfl (ev_box rfl) ?_
  rintro _ w4 ⟨rfl, hN4⟩
  have hz4 := hN4.size
  replace hE := hE.trans hN4.ext
  replace hm := hm.ext hN4.ext
  replace hA := hA.ext hN4.ext
  replace hB3 := hB3.ext hN4.ext
  have hB4 : Blk w4 _ _ [_, _, _] := hN4.blk
  refine WL_q rfl (ev_assign rfl) ?_
  refine WL_q rfl (ev_assign rfl) ?_
  refine WL_nil ?_
  refine thenE_n ?_
  refine W_seq ?_
  refine W_seq ?_
  refine W_region ?_
  refine WL_q rfl (ev_loads st36 sz36 rfl (cellsB hB3) rfl) ?_
  refine WL_q rfl (ev_loads st40 sz40 rfl (cellsB hB4) rfl) ?_
  refine WL_m rfl (ev_call rfl (maAsked_spec _ m _ A _ hm (by omega) (by omega) hA (by omega) (by omega))) ?_
  rintro _ w10 ⟨b10, rfl, hb10, hE10⟩
  have hz10 := hE10.size
  replace hE := hE.trans hE10
  replace hm := hm.ext hE10
  replace hA := hA.ext hE10
  replace hB3 := hB3.ext hE10
  replace hB4 := hB4.ext hE10
  refine WL_q rfl (ev_not rfl) ?_
  refine WL_q rfl (ev_move rfl) ?_
  refine WL_splitv (t := 12) rfl (fun hg11 => ?_) (fun hg11 => ?_)
  · have hg10 := not_true hg11
    have hp10 := ttN hb10 hg10
    refine WL_no rfl rfl hg11 rfl ?_
    refine WL_no rfl rfl hg11 rfl ?_
    refine WL_no rfl rfl hg11 rfl ?_
    refine WL_q rfl (ev_pick_t rfl hg11 rfl) ?_
    refine WL_nil ?_
    refine thenE_n ?_
    refine W_cond_t rfl ?_
    refine W_seq ?_
    refine W_region ?_
    refine WL_q rfl (ev_assign rfl) ?_
    refine WL_q rfl (ev_assign rfl) ?_
    refine WL_nil ?_
    refine thenE_n ?_
    refine W_ret ?_
    refine thenE_r ?_
    refine ret2 rfl rfl rfl ?_
    first | (exact ⟨none, 0, [], _, rfl, .no (fun h => hp10 h.1), Nest.nil, ⟨by simp, by simp [totL]⟩, hE⟩) | (exact ⟨none, 0, [], _, rfl, .no (fun h => tf hg14 h.2), Nest.nil, ⟨by simp, by simp [totL]⟩, hE⟩) | (exact ⟨_, _, _, _, rfl, .yes ⟨hp10, hg14⟩ rfl, hR20.is.mono (Nat.zero_le _) (Nat.le_refl _), (runL_tot (by omega) (by omega)).2, hE⟩)
  · have hg10 := not_false hg11
    have hp10 := hb10.1 hg10
    refine WL_qg rfl rfl hg11 rfl (ev_move rfl) ?_
    refine WL_mg rfl rfl hg11 rfl (ev_call rfl (l1In_spec _ _ _ _)) ?_
    rintro _ _ ⟨rfl, rfl⟩
    refine WL_qg rfl rfl hg11 rfl (ev_not rfl) ?_
    refine WL_q rfl (ev_pick_f rfl hg11 rfl) ?_
    refine WL_nil ?_
    refine thenE_n ?_
    refine W_cond rfl (fun hg15 => ?_) (fun hg15 => ?_)
    · have hg14 := not_true hg15
      have hp14 := inR_false.1 hg14
      refine W_seq ?_
      refine W_region ?_
      refine WL_q rfl (ev_assign rfl) ?_
      refine WL_q rfl (ev_assign rfl) ?_
      refine WL_nil ?_
      refine thenE_n ?_
      refine W_ret ?_
      refine thenE_r ?_
      refine ret2 rfl rfl rfl ?_
      first | (exact ⟨none, 0, [], _, rfl, .no (fun h => hp10 h.1), Nest.nil, ⟨by simp, by simp [totL]⟩, hE⟩) | (exact ⟨none, 0, [], _, rfl, .no (fun h => tf hg14 h.2), Nest.nil, ⟨by simp, by simp [totL]⟩, hE⟩) | (exact ⟨_, _, _, _, rfl, .yes ⟨hp10, hg14⟩ rfl, hR20.is.mono (Nat.zero_le _) (Nat.le_refl _), (runL_tot (by omega) (by omega)).2, hE⟩)
    · have hg14 := not_false hg15
      have hp14 := inR_true.1 hg14
      refine W_skip ?_
      refine thenE_n ?_
      refine W_seq ?_
      refine W_region ?_
      refine WL_q rfl (ev_loads st36 sz36 rfl (cellsB hB3) rfl) ?_
      refine WL_q rfl (ev_loads st40 sz40 rfl (cellsB hB4) rfl) ?_
      refine WL_q rfl (ev_move rfl) ?_
      have hin := inR_true.1 hg14
      have hnd := hp10.2.1.nodes
      refine WL_m rfl (ev_call rfl (maRun_spec _ m _ A _ _ hm (by omega) (by omega) hA (by omega) (by omega) (by assumption) (by omega))) ?_
      rintro _ w20 ⟨a20, c20, rfl, hR20, hE20⟩
      have hz20 := hE20.size
      replace hE := hE.trans hE20
      replace hm := hm.ext hE20
      replace hA := hA.ext hE20
      replace hB3 := hB3.ext hE20
      replace hB4 := hB4.ext hE20
      refine WL_q rfl (ev_assign rfl) ?_
      refine WL_q rfl (ev_assign rfl) ?_
      refine WL_nil ?_
      refine thenE_n ?_
      refine W_ret ?_
      refine ret2 rfl rfl rfl ?_
      first | (exact ⟨none, 0, [], _, rfl, .no (fun h => hp10 h.1), Nest.nil, ⟨by simp, by simp [totL]⟩, hE⟩) | (exact ⟨none, 0, [], _, rfl, .no (fun h => tf hg14 h.2), Nest.nil, ⟨by simp, by simp [totL]⟩, hE⟩) | (exact ⟨_, _, _, _, rfl, .yes ⟨hp10, hg14⟩ rfl, hR20.is.mono (Nat.zero_le _) (Nat.le_refl _), (runL_tot (by omega) (by omega)).2, hE⟩)

set_option maxRecDepth 100000 in
theorem law_RunMachine (nm : MA) (m : Mach) (nA : NA) (A : Net) (k : Int) (w : World) (hm : IsMach 0 w.heap.size w nm m) (hsm : SmM m) (hA : IsNet 0 w.heap.size w nA A) (hsA : SmN A) (hik : I64 k) :
    Fn Try.prog 7 #[machV nm m, netV nA A, VI k] w (fun v w' => v = VB true ∧ Ext w w') := by
  have hE := Ext.refl w
  refine Fn_of Try.func7 rfl rfl (by kernel_rfl) rfl ?_
  refine W_seq ?_
  refine W_region ?_
  refine WL_m rfl (ev_box rfl) ?_
  rintro _ w3 ⟨rfl, hN3⟩
  have hz3 := hN3.size
  replace hE := hE.trans hN3.ext
  replace hm := hm.ext hN3.ext
  replace hA := hA.ext hN3.ext
  have hB3 : Blk w3 _ _ [_, _, _, _, _, _, _] := hN3.blk
  refine WL_m rfl (ev_box rfl) ?_
  rintro _ w4 ⟨rfl, hN4⟩
  have hz4 := hN4.size
  replace hE := hE.trans hN4.ext
  replace hm := hm.ext hN4.ext
  replace hA := hA.ext hN4.ext
  replace hB3 := hB3.ext hN4.ext
  have hB4 : Blk w4 _ _ [_, _, _] := hN4.blk
  refine WL_q rfl (ev_assign rfl) ?_
  refine WL_nil ?_
  refine thenE_n ?_
  refine W_seq ?_
  refine W_region ?_
  refine WL_q rfl (ev_assign rfl) ?_
  refine WL_nil ?_
  refine thenE_n ?_
  refine W_seq ?_
  refine W_region ?_
  refine WL_q rfl (ev_loads st26 sz26 rfl (cellsB hB3) rfl) ?_
  refine WL_q rfl (ev_move rfl) ?_
  refine WL_m rfl (ev_call rfl (szMachine_spec _ m _ _ hm (by omega) hsm)) ?_
  rintro _ w21 ⟨r21, rfl, hE21, hr21⟩
  have hz21 := hE21.size
  replace hE := hE.trans hE21
  replace hm := hm.ext hE21
  replace hA := hA.ext hE21
  replace hB3 := hB3.ext hE21
  replace hB4 := hB4.ext hE21
  refine WL_q rfl (ev_assign rfl) ?_
  refine WL_nil ?_
  refine thenE_n ?_
  refine W_seq ?_
  refine W_seq ?_
  refine W_region ?_
  refine WL_q rfl (ev_move rfl) ?_
  refine WL_q rfl (ev_lss rfl rfl) ?_
  refine WL_nil ?_
  refine thenE_n ?_
  refine W_cond rfl (fun hg23 => ?_) (fun hg23 => ?_)
  · have hp23 := of_decide_eq_true hg23
    refine W_seq ?_
    refine W_region ?_
    refine WL_q rfl (ev_assign rfl) ?_
    refine WL_nil ?_
    refine thenE_n ?_
    refine W_ret ?_
    refine thenE_r ?_
    refine ret1 rfl rfl ?_
    first | (exact ⟨rfl, hE⟩) | (exact (tfX hg23).elim) | (exact (decF hg23).elim) | (exfalso; omega)
  · have hp23 := of_decide_eq_false hg23
    refine W_skip ?_
    refine thenE_n ?_
    refine W_seq ?_
    refine W_region ?_
    refine WL_q rfl (ev_loads st29 sz29 rfl (cellsB hB4) rfl) ?_
    refine WL_q rfl (ev_move rfl) ?_
    refine WL_m rfl (ev_call rfl (szNetwork_spec _ A _ _ hA (by omega) hsA)) ?_
    rintro _ w26 ⟨r26, rfl, hE26, hr26⟩
    have hz26 := hE26.size
    replace hE := hE.trans hE26
    replace hm := hm.ext hE26
    replace hA := hA.ext hE26
    replace hB3 := hB3.ext hE26
    replace hB4 := hB4.ext hE26
    refine WL_q rfl (ev_assign rfl) ?_
    refine WL_nil ?_
    refine thenE_n ?_
    refine W_seq ?_
    refine W_seq ?_
    refine W_region ?_
    refine WL_q rfl (ev_move rfl) ?_
    refine WL_q rfl (ev_lss rfl rfl) ?_
    refine WL_nil ?_
    refine thenE_n ?_
    refine W_cond rfl (fun hg28 => ?_) (fun hg28 => ?_)
    · have hp28 := of_decide_eq_true hg28
      refine W_seq ?_
      refine W_region ?_
      refine WL_q rfl (ev_assign rfl) ?_
      refine WL_nil ?_
      refine thenE_n ?_
      refine W_ret ?_
      refine thenE_r ?_
      refine ret1 rfl rfl ?_
      first | (exact ⟨rfl, hE⟩) | (exact (tfX hg28).elim) | (exact (decF hg28).elim) | (exfalso; omega)
    · have hp28 := of_decide_eq_false hg28
      refine W_skip ?_
      refine thenE_n ?_
      refine W_seq ?_
      refine W_drawE [(0, true), (2, true), (4, true), (1, false), (3, false), (5, false), (6, true), (7, true), (8, true), (9, true), (10, true)] mixed (by kernel_rfl) rfl (by kernel_rfl) ?_
      intro wd8 hEd8 hzd8
      replace hE := hE.trans hEd8
      replace hm := hm.ext hEd8
      replace hA := hA.ext hEd8
      replace hB3 := hB3.ext hEd8
      replace hB4 := hB4.ext hEd8
      have hDd8 := Ext.refl wd8
      refine PW_q rfl rfl (fun wq hq => ev_loads st26 sz26 rfl (cellsB (hq.blk hB3)) rfl) ?_
      refine PW_q rfl rfl (fun wq hq => ev_loads st29 sz29 rfl (cellsB (hq.blk hB4)) rfl) ?_
      refine PW_q rfl rfl (fun wq hq => ev_move rfl) ?_
      refine PW_m rfl rfl (ev_call rfl (toMachine_spec _ m _ hm (by omega) (by omega))) ?_
      rintro _ w31 ⟨h31, rfl, hF31, hE31⟩
      have hz31 := hE31.size
      replace hE := hE.trans hE31
      replace hDd8 := hDd8.trans hE31
      have hM31 := hF31.is
      refine ⟨hDd8, ?_⟩
      have hm_3 := hm.ext hDd8
      have hA_3 := hA.ext hDd8
      have hB3_3 := hB3.ext hDd8
      have hB4_3 := hB4.ext hDd8
      refine PW_m rfl rfl (ev_call rfl (toNetwork_spec _ A _ hA_3 (by omega) (by omega))) ?_
      rintro _ w33 ⟨h33, rfl, hF33, hE33⟩
      have hz33 := hE33.size
      replace hE := hE.trans hE33
      replace hDd8 := hDd8.trans hE33
      replace hF31 := hF31.ext hE33
      replace hM31 := hM31.ext hE33
      have hN33 := hF33.is
      refine ⟨hDd8, ?_⟩
      have hm_5 := hm.ext hDd8
      have hA_5 := hA.ext hDd8
      have hB3_5 := hB3.ext hDd8
      have hB4_5 := hB4.ext hDd8
      refine PW_m rfl rfl (ev_call rfl (sRunMachine_spec _ m _ A _ _ hM31 (by omega) (by omega) hN33 (by omega) (by omega))) ?_
      rintro _ w35 ⟨a35, c35, y35, q35, rfl, hr35, hx35, ⟨hm35, ht35⟩, hE35⟩
      have hz35 := hE35.size
      replace hE := hE.trans hE35
      replace hDd8 := hDd8.trans hE35
      replace hF31 := hF31.ext hE35
      replace hM31 := hM31.ext hE35
      replace hF33 := hF33.ext hE35
      replace hN33 := hN33.ext hE35
      refine ⟨hDd8, ?_⟩
      refine PW_q rfl rfl (fun wq hq => ev_move rfl) ?_
      refine PW_q rfl rfl (fun wq hq => ev_extract rfl rfl) ?_
      refine PW_q rfl rfl (fun wq hq => ev_extract rfl rfl) ?_
      refine PW_q rfl rfl (fun wq hq => ev_assign rfl) ?_
      refine PW_q rfl rfl (fun wq hq => ev_assign rfl) ?_
      replace hm := hm.ext hDd8
      replace hA := hA.ext hDd8
      replace hB3 := hB3.ext hDd8
      replace hB4 := hB4.ext hDd8
      refine PW_nil ?_
      refine thenE_n ?_
      refine W_seq ?_
      refine W_region ?_
      refine WL_q rfl (ev_loads st26 sz26 rfl (cellsB hB3) rfl) ?_
      refine WL_m rfl (ev_call rfl (toMachine_spec _ m _ hm (by omega) (by omega))) ?_
      rintro _ w39 ⟨h39, rfl, hF39, hE39⟩
      have hz39 := hE39.size
      replace hE := hE.trans hE39
      replace hm := hm.ext hE39
      replace hA := hA.ext hE39
      replace hB3 := hB3.ext hE39
      replace hB4 := hB4.ext hE39
      replace hF31 := hF31.ext hE39
      replace hM31 := hM31.ext hE39
      replace hF33 := hF33.ext hE39
      replace hN33 := hN33.ext hE39
      replace hx35 := hx35.ext hE39
      have hM39 := hF39.is
      refine WL_m rfl (ev_alloc zr36) ?_
      rintro _ w10 ⟨rfl, hN10⟩
      have hz10 := hN10.size
      replace hE := hE.trans hN10.ext
      replace hm := hm.ext hN10.ext
      replace hA := hA.ext hN10.ext
      replace hB3 := hB3.ext hN10.ext
      replace hB4 := hB4.ext hN10.ext
      replace hF31 := hF31.ext hN10.ext
      replace hM31 := hM31.ext hN10.ext
      replace hF33 := hF33.ext hN10.ext
      replace hN33 := hN33.ext hN10.ext
      replace hx35 := hx35.ext hN10.ext
      replace hF39 := hF39.ext hN10.ext
      replace hM39 := hM39.ext hN10.ext
      have hB10 : Blk w10 _ _ [_, _, _, _, _, _, _] := hN10.blk
      refine WL_s (ev_stores sz36 rfl rfl rfl (by simp [Value.oneCell']) hB10 (by simp)) ?_
      rintro _ w9_3 hS9_3
      have hz9_3 := hS9_3.size
      replace hE := hE.sto hS9_3 (by omega)
      replace hm := hm.sto hS9_3 (by omega)
      replace hA := hA.sto hS9_3 (by omega)
      replace hB3 := hB3.sto hS9_3 (by omega)
      replace hB4 := hB4.sto hS9_3 (by omega)
      replace hF31 := hF31.sto hS9_3 (by omega)
      replace hM31 := hM31.sto hS9_3 (by omega)
      replace hF33 := hF33.sto hS9_3 (by omega)
      replace hN33 := hN33.sto hS9_3 (by omega)
      replace hx35 := hx35.sto hS9_3 (by omega)
      replace hF39 := hF39.sto hS9_3 (by omega)
      replace hM39 := hM39.sto hS9_3 (by omega)
      replace hB10 : Blk w9_3 _ _ [_, _, _, _, _, _, _] := hS9_3.blk
      refine WL_nil ?_
      refine thenE_n ?_
      refine W_seq ?_
      refine W_region ?_
      refine WL_q rfl (ev_loads st29 sz29 rfl (cellsB hB4) rfl) ?_
      refine WL_m rfl (ev_call rfl (toNetwork_spec _ A _ hA (by omega) (by omega))) ?_
      rintro _ w41 ⟨h41, rfl, hF41, hE41⟩
      have hz41 := hE41.size
      replace hE := hE.trans hE41
      replace hm := hm.ext hE41
      replace hA := hA.ext hE41
      replace hB3 := hB3.ext hE41
      replace hB4 := hB4.ext hE41
      replace hF31 := hF31.ext hE41
      replace hM31 := hM31.ext hE41
      replace hF33 := hF33.ext hE41
      replace hN33 := hN33.ext hE41
      replace hx35 := hx35.ext hE41
      replace hF39 := hF39.ext hE41
      replace hM39 := hM39.ext hE41
      replace hB10 := hB10.ext hE41
      have hN41 := hF41.is
      refine WL_m rfl (ev_alloc zr40) ?_
      rintro _ w11 ⟨rfl, hN11⟩
      have hz11 := hN11.size
      replace hE := hE.trans hN11.ext
      replace hm := hm.ext hN11.ext
      replace hA := hA.ext hN11.ext
      replace hB3 := hB3.ext hN11.ext
      replace hB4 := hB4.ext hN11.ext
      replace hF31 := hF31.ext hN11.ext
      replace hM31 := hM31.ext hN11.ext
      replace hF33 := hF33.ext hN11.ext
      replace hN33 := hN33.ext hN11.ext
      replace hx35 := hx35.ext hN11.ext
      replace hF39 := hF39.ext hN11.ext
      replace hM39 := hM39.ext hN11.ext
      replace hB10 := hB10.ext hN11.ext
      replace hF41 := hF41.ext hN11.ext
      replace hN41 := hN41.ext hN11.ext
      have hB11 : Blk w11 _ _ [_, _, _] := hN11.blk
      refine WL_s (ev_stores sz40 rfl rfl rfl (by simp [Value.oneCell']) hB11 (by simp)) ?_
      rintro _ w10_3 hS10_3
      have hz10_3 := hS10_3.size
      replace hE := hE.sto hS10_3 (by omega)
      replace hm := hm.sto hS10_3 (by omega)
      replace hA := hA.sto hS10_3 (by omega)
      replace hB3 := hB3.sto hS10_3 (by omega)
      replace hB4 := hB4.sto hS10_3 (by omega)
      replace hF31 := hF31.sto hS10_3 (by omega)
      replace hM31 := hM31.sto hS10_3 (by omega)
      replace hF33 := hF33.sto hS10_3 (by omega)
      replace hN33 := hN33.sto hS10_3 (by omega)
      replace hx35 := hx35.sto hS10_3 (by omega)
      replace hF39 := hF39.sto hS10_3 (by omega)
      replace hM39 := hM39.sto hS10_3 (by omega)
      replace hB10 := hB10.sto hS10_3 (by omega)
      replace hF41 := hF41.sto hS10_3 (by omega)
      replace hN41 := hN41.sto hS10_3 (by omega)
      replace hB11 : Blk w10_3 _ _ [_, _, _] := hS10_3.blk
      refine WL_nil ?_
      refine thenE_n ?_
      refine W_seq ?_
      refine W_region ?_
      refine WL_q rfl (ev_loads st36 sz36 rfl (cellsB hB10) rfl) ?_
      refine WL_q rfl (ev_loads st40 sz40 rfl (cellsB hB11) rfl) ?_
      refine WL_q rfl (ev_move rfl) ?_
      refine WL_m rfl (ev_call rfl (RunMachine_spec _ m _ A _ _ hM39 (by omega) (by omega) hN41 (by omega) (by omega))) ?_
      rintro _ w46 ⟨a46, c46, y46, q46, rfl, hr46, hO46, ⟨hl46, hm46, ht46⟩, hE46⟩
      have hz46 := hE46.size
      replace hE := hE.trans hE46
      replace hm := hm.ext hE46
      replace hA := hA.ext hE46
      replace hB3 := hB3.ext hE46
      replace hB4 := hB4.ext hE46
      replace hF31 := hF31.ext hE46
      replace hM31 := hM31.ext hE46
      replace hF33 := hF33.ext hE46
      replace hN33 := hN33.ext hE46
      replace hx35 := hx35.ext hE46
      replace hF39 := hF39.ext hE46
      replace hM39 := hM39.ext hE46
      replace hB10 := hB10.ext hE46
      replace hF41 := hF41.ext hE46
      replace hN41 := hN41.ext hE46
      replace hB11 := hB11.ext hE46
      refine WL_q rfl (ev_move rfl) ?_
      refine WL_q rfl (ev_extract rfl rfl) ?_
      refine WL_q rfl (ev_extract rfl rfl) ?_
      refine WL_q rfl (ev_assign rfl) ?_
      refine WL_q rfl (ev_assign rfl) ?_
      refine WL_nil ?_
      refine thenE_n ?_
      refine W_seq ?_
      refine W_seq ?_
      refine W_region ?_
      refine WL_q rfl (ev_move rfl) ?_
      refine WL_q rfl (ev_move rfl) ?_
      refine WL_m rfl (ev_call rfl (eqIntSS_spec _ _ _ _ y46 y35 _ (hO46.is) hx35 (by omega))) ?_
      rintro _ w51 ⟨rfl, hE51⟩
      have hz51 := hE51.size
      replace hE := hE.trans hE51
      replace hm := hm.ext hE51
      replace hA := hA.ext hE51
      replace hB3 := hB3.ext hE51
      replace hB4 := hB4.ext hE51
      replace hF31 := hF31.ext hE51
      replace hM31 := hM31.ext hE51
      replace hF33 := hF33.ext hE51
      replace hN33 := hN33.ext hE51
      replace hx35 := hx35.ext hE51
      replace hF39 := hF39.ext hE51
      replace hM39 := hM39.ext hE51
      replace hB10 := hB10.ext hE51
      replace hF41 := hF41.ext hE51
      replace hN41 := hN41.ext hE51
      replace hB11 := hB11.ext hE51
      replace hO46 := hO46.ext hE51
      refine WL_q rfl (ev_not rfl) ?_
      refine WL_q rfl (ev_move rfl) ?_
      refine WL_splitv (t := 53) rfl (fun hg52 => ?_) (fun hg52 => ?_)
      · have hg51 := not_true hg52
        refine WL_no rfl rfl hg52 rfl ?_
        refine WL_no rfl rfl hg52 rfl ?_
        refine WL_no rfl rfl hg52 rfl ?_
        refine WL_q rfl (ev_pick_t rfl hg52 rfl) ?_
        refine WL_nil ?_
        refine thenE_n ?_
        refine W_cond_t rfl ?_
        refine W_seq ?_
        refine W_region ?_
        refine WL_q rfl (ev_assign rfl) ?_
        refine WL_nil ?_
        refine thenE_n ?_
        refine W_ret ?_
        refine thenE_r ?_
        refine ret1 rfl rfl ?_
        first | (exact ⟨rfl, hE⟩) | (exact (bneE hg51 (hr46.det1 hr35)).elim) | (exact absurd (hr46.det1 hr35) hp51) | (exact absurd (hr46.det1 hr35) (of_decide_eq_false hg51)) | (exact (bneE hg51 (hr46.det2 hr35)).elim) | (exact absurd (hr46.det2 hr35) hp51) | (exact absurd (hr46.det2 hr35) (of_decide_eq_false hg51)) | (exact (bneE hg51 (hr46.det3 hr35)).elim) | (exact absurd (hr46.det3 hr35) hp51) | (exact absurd (hr46.det3 hr35) (of_decide_eq_false hg51)) | (exact (tfX hg51).elim) | (exact (decF hg51).elim) | (exfalso; omega)
      · have hg51 := not_false hg52
        refine WL_qg rfl rfl hg52 rfl (ev_move rfl) ?_
        refine WL_qg rfl rfl hg52 rfl (ev_move rfl) ?_
        refine WL_qg rfl rfl hg52 rfl (ev_neq_b Try.underlying4 rfl rfl) ?_
        refine WL_q rfl (ev_pick_f rfl hg52 rfl) ?_
        refine WL_nil ?_
        refine thenE_n ?_
        refine W_cond rfl (fun hg56 => ?_) (fun hg56 => ?_)
        · refine W_seq ?_
          refine W_region ?_
          refine WL_q rfl (ev_assign rfl) ?_
          refine WL_nil ?_
          refine thenE_n ?_
          refine W_ret ?_
          refine thenE_r ?_
          refine ret1 rfl rfl ?_
          first | (exact ⟨rfl, hE⟩) | (exact (bneE hg56 (hr46.det1 hr35)).elim) | (exact absurd (hr46.det1 hr35) hp56) | (exact absurd (hr46.det1 hr35) (of_decide_eq_false hg56)) | (exact (bneE hg56 (hr46.det2 hr35)).elim) | (exact absurd (hr46.det2 hr35) hp56) | (exact absurd (hr46.det2 hr35) (of_decide_eq_false hg56)) | (exact (bneE hg56 (hr46.det3 hr35)).elim) | (exact absurd (hr46.det3 hr35) hp56) | (exact absurd (hr46.det3 hr35) (of_decide_eq_false hg56)) | (exact (tfX hg56).elim) | (exact (decF hg56).elim) | (exfalso; omega)
        · refine W_skip ?_
          refine thenE_n ?_
          refine W_seq ?_
          refine W_seq ?_
          refine W_drawE [(0, true), (1, true), (2, false), (3, false), (4, true)] mixed (by kernel_rfl) rfl (by kernel_rfl) ?_
          intro wd14 hEd14 hzd14
          replace hE := hE.trans hEd14
          replace hm := hm.ext hEd14
          replace hA := hA.ext hEd14
          replace hB3 := hB3.ext hEd14
          replace hB4 := hB4.ext hEd14
          replace hF31 := hF31.ext hEd14
          replace hM31 := hM31.ext hEd14
          replace hF33 := hF33.ext hEd14
          replace hN33 := hN33.ext hEd14
          replace hx35 := hx35.ext hEd14
          replace hF39 := hF39.ext hEd14
          replace hM39 := hM39.ext hEd14
          replace hB10 := hB10.ext hEd14
          replace hF41 := hF41.ext hEd14
          replace hN41 := hN41.ext hEd14
          replace hB11 := hB11.ext hEd14
          replace hO46 := hO46.ext hEd14
          have hDd14 := Ext.refl wd14
          refine PW_q rfl rfl (fun wq hq => ev_loads st36 sz36 rfl (cellsB (hq.blk hB10)) rfl) ?_
          refine PW_q rfl rfl (fun wq hq => ev_loads st26 sz26 rfl (cellsB (hq.blk hB3)) rfl) ?_
          refine PW_m rfl rfl (ev_call rfl (toMachine_spec _ m _ hm (by omega) (by omega))) ?_
          rintro _ w60 ⟨h60, rfl, hF60, hE60⟩
          have hz60 := hE60.size
          replace hE := hE.trans hE60
          replace hDd14 := hDd14.trans hE60
          have hM60 := hF60.is
          refine ⟨hDd14, ?_⟩
          have hm_3 := hm.ext hDd14
          have hA_3 := hA.ext hDd14
          have hB3_3 := hB3.ext hDd14
          have hB4_3 := hB4.ext hDd14
          have hF31_3 := hF31.ext hDd14
          have hM31_3 := hM31.ext hDd14
          have hF33_3 := hF33.ext hDd14
          have hN33_3 := hN33.ext hDd14
          have hx35_3 := hx35.ext hDd14
          have hF39_3 := hF39.ext hDd14
          have hM39_3 := hM39.ext hDd14
          have hB10_3 := hB10.ext hDd14
          have hF41_3 := hF41.ext hDd14
          have hN41_3 := hN41.ext hDd14
          have hB11_3 := hB11.ext hDd14
          have hO46_3 := hO46.ext hDd14
          refine PW_m rfl rfl (ev_call rfl (eqMachine_spec _ _ m _ hM39_3 hM60 (by omega))) ?_
          rintro _ w61 ⟨rfl, hE61⟩
          have hz61 := hE61.size
          replace hE := hE.trans hE61
          replace hDd14 := hDd14.trans hE61
          replace hF60 := hF60.ext hE61
          replace hM60 := hM60.ext hE61
          refine ⟨hDd14, ?_⟩
          refine PW_q rfl rfl (fun wq hq => ev_not rfl) ?_
          replace hm := hm.ext hDd14
          replace hA := hA.ext hDd14
          replace hB3 := hB3.ext hDd14
          replace hB4 := hB4.ext hDd14
          replace hF31 := hF31.ext hDd14
          replace hM31 := hM31.ext hDd14
          replace hF33 := hF33.ext hDd14
          replace hN33 := hN33.ext hDd14
          replace hx35 := hx35.ext hDd14
          replace hF39 := hF39.ext hDd14
          replace hM39 := hM39.ext hDd14
          replace hB10 := hB10.ext hDd14
          replace hF41 := hF41.ext hDd14
          replace hN41 := hN41.ext hDd14
          replace hB11 := hB11.ext hDd14
          replace hO46 := hO46.ext hDd14
          refine PW_nil ?_
          refine thenE_n ?_
          refine W_cond rfl (fun hg62 => ?_) (fun hg62 => ?_)
          · have hg61 := not_true hg62
            refine W_seq ?_
            refine W_region ?_
            refine WL_q rfl (ev_assign rfl) ?_
            refine WL_nil ?_
            refine thenE_n ?_
            refine W_ret ?_
            refine thenE_r ?_
            refine ret1 rfl rfl ?_
            first | (exact ⟨rfl, hE⟩) | (exact (bneE hg61 (hr46.det1 hr35)).elim) | (exact absurd (hr46.det1 hr35) hp61) | (exact absurd (hr46.det1 hr35) (of_decide_eq_false hg61)) | (exact (bneE hg61 (hr46.det2 hr35)).elim) | (exact absurd (hr46.det2 hr35) hp61) | (exact absurd (hr46.det2 hr35) (of_decide_eq_false hg61)) | (exact (bneE hg61 (hr46.det3 hr35)).elim) | (exact absurd (hr46.det3 hr35) hp61) | (exact absurd (hr46.det3 hr35) (of_decide_eq_false hg61)) | (exact (tfX hg61).elim) | (exact (decF hg61).elim) | (exfalso; omega)
          · have hg61 := not_false hg62
            refine W_skip ?_
            refine thenE_n ?_
            refine W_seq ?_
            refine W_seq ?_
            refine W_drawE [(0, true), (1, true), (2, false), (3, false), (4, true)] mixed (by kernel_rfl) rfl (by kernel_rfl) ?_
            intro wd16 hEd16 hzd16
            replace hE := hE.trans hEd16
            replace hm := hm.ext hEd16
            replace hA := hA.ext hEd16
            replace hB3 := hB3.ext hEd16
            replace hB4 := hB4.ext hEd16
            replace hF31 := hF31.ext hEd16
            replace hM31 := hM31.ext hEd16
            replace hF33 := hF33.ext hEd16
            replace hN33 := hN33.ext hEd16
            replace hx35 := hx35.ext hEd16
            replace hF39 := hF39.ext hEd16
            replace hM39 := hM39.ext hEd16
            replace hB10 := hB10.ext hEd16
            replace hF41 := hF41.ext hEd16
            replace hN41 := hN41.ext hEd16
            replace hB11 := hB11.ext hEd16
            replace hO46 := hO46.ext hEd16
            replace hF60 := hF60.ext hEd16
            replace hM60 := hM60.ext hEd16
            have hDd16 := Ext.refl wd16
            refine PW_q rfl rfl (fun wq hq => ev_loads st40 sz40 rfl (cellsB (hq.blk hB11)) rfl) ?_
            refine PW_q rfl rfl (fun wq hq => ev_loads st29 sz29 rfl (cellsB (hq.blk hB4)) rfl) ?_
            refine PW_m rfl rfl (ev_call rfl (toNetwork_spec _ A _ hA (by omega) (by omega))) ?_
            rintro _ w65 ⟨h65, rfl, hF65, hE65⟩
            have hz65 := hE65.size
            replace hE := hE.trans hE65
            replace hDd16 := hDd16.trans hE65
            have hN65 := hF65.is
            refine ⟨hDd16, ?_⟩
            have hm_3 := hm.ext hDd16
            have hA_3 := hA.ext hDd16
            have hB3_3 := hB3.ext hDd16
            have hB4_3 := hB4.ext hDd16
            have hF31_3 := hF31.ext hDd16
            have hM31_3 := hM31.ext hDd16
            have hF33_3 := hF33.ext hDd16
            have hN33_3 := hN33.ext hDd16
            have hx35_3 := hx35.ext hDd16
            have hF39_3 := hF39.ext hDd16
            have hM39_3 := hM39.ext hDd16
            have hB10_3 := hB10.ext hDd16
            have hF41_3 := hF41.ext hDd16
            have hN41_3 := hN41.ext hDd16
            have hB11_3 := hB11.ext hDd16
            have hO46_3 := hO46.ext hDd16
            have hF60_3 := hF60.ext hDd16
            have hM60_3 := hM60.ext hDd16
            refine PW_m rfl rfl (ev_call rfl (eqNetwork_spec _ _ A _ hN41_3 hN65 (by omega))) ?_
            rintro _ w66 ⟨rfl, hE66⟩
            have hz66 := hE66.size
            replace hE := hE.trans hE66
            replace hDd16 := hDd16.trans hE66
            replace hF65 := hF65.ext hE66
            replace hN65 := hN65.ext hE66
            refine ⟨hDd16, ?_⟩
            refine PW_q rfl rfl (fun wq hq => ev_not rfl) ?_
            replace hm := hm.ext hDd16
            replace hA := hA.ext hDd16
            replace hB3 := hB3.ext hDd16
            replace hB4 := hB4.ext hDd16
            replace hF31 := hF31.ext hDd16
            replace hM31 := hM31.ext hDd16
            replace hF33 := hF33.ext hDd16
            replace hN33 := hN33.ext hDd16
            replace hx35 := hx35.ext hDd16
            replace hF39 := hF39.ext hDd16
            replace hM39 := hM39.ext hDd16
            replace hB10 := hB10.ext hDd16
            replace hF41 := hF41.ext hDd16
            replace hN41 := hN41.ext hDd16
            replace hB11 := hB11.ext hDd16
            replace hO46 := hO46.ext hDd16
            replace hF60 := hF60.ext hDd16
            replace hM60 := hM60.ext hDd16
            refine PW_nil ?_
            refine thenE_n ?_
            refine W_cond rfl (fun hg67 => ?_) (fun hg67 => ?_)
            · have hg66 := not_true hg67
              refine W_seq ?_
              refine W_region ?_
              refine WL_q rfl (ev_assign rfl) ?_
              refine WL_nil ?_
              refine thenE_n ?_
              refine W_ret ?_
              refine thenE_r ?_
              refine ret1 rfl rfl ?_
              first | (exact ⟨rfl, hE⟩) | (exact (bneE hg66 (hr46.det1 hr35)).elim) | (exact absurd (hr46.det1 hr35) hp66) | (exact absurd (hr46.det1 hr35) (of_decide_eq_false hg66)) | (exact (bneE hg66 (hr46.det2 hr35)).elim) | (exact absurd (hr46.det2 hr35) hp66) | (exact absurd (hr46.det2 hr35) (of_decide_eq_false hg66)) | (exact (bneE hg66 (hr46.det3 hr35)).elim) | (exact absurd (hr46.det3 hr35) hp66) | (exact absurd (hr46.det3 hr35) (of_decide_eq_false hg66)) | (exact (tfX hg66).elim) | (exact (decF hg66).elim) | (exfalso; omega)
            · have hg66 := not_false hg67
              refine W_skip ?_
              refine thenE_n ?_
              refine W_seq ?_
              refine W_region ?_
              refine WL_q rfl (ev_assign rfl) ?_
              refine WL_nil ?_
              refine thenE_n ?_
              refine W_seq ?_
              refine W_region ?_
              refine WL_q rfl (ev_loads st36 sz36 rfl (cellsB hB10) rfl) ?_
              refine WL_q rfl (ev_move rfl) ?_
              refine WL_m rfl (ev_call rfl (markMachine_spec _ m _ _ hF39 (by omega) (by omega) (by omega))) ?_
              rintro _ w70 ⟨r70, rfl, hr70, hK70⟩
              have hz70 := hK70.size
              replace hE := hE.mrk hK70 (by omega)
              replace hm := hm.mrk hK70 (by omega)
              replace hA := hA.mrk hK70 (by omega)
              replace hB3 := hB3.mrk hK70 (by omega)
              replace hB4 := hB4.mrk hK70 (by omega)
              replace hF31 := hF31.mrk hK70 (by omega)
              replace hM31 := hM31.mrk hK70 (by omega)
              replace hF33 := hF33.mrk hK70 (by omega)
              replace hN33 := hN33.mrk hK70 (by omega)
              replace hx35 := hx35.mrk hK70 (by omega)
              replace hB10 := hB10.mrk hK70 (by omega)
              replace hF41 := hF41.mrk hK70 (by omega)
              replace hN41 := hN41.mrk hK70 (by omega)
              replace hB11 := hB11.mrk hK70 (by omega)
              replace hO46 := hO46.mrk hK70 (by omega)
              replace hF60 := hF60.mrk hK70 (by omega)
              replace hM60 := hM60.mrk hK70 (by omega)
              replace hF65 := hF65.mrk hK70 (by omega)
              replace hN65 := hN65.mrk hK70 (by omega)
              refine WL_q rfl (ev_assign rfl) ?_
              refine WL_nil ?_
              refine thenE_n ?_
              refine W_seq ?_
              refine W_region ?_
              refine WL_q rfl (ev_loads st40 sz40 rfl (cellsB hB11) rfl) ?_
              refine WL_q rfl (ev_move rfl) ?_
              refine WL_m rfl (ev_call rfl (markNetwork_spec _ A _ _ hF41 (by omega) (by omega) (by omega))) ?_
              rintro _ w73 ⟨r73, rfl, hr73, hK73⟩
              have hz73 := hK73.size
              replace hE := hE.mrk hK73 (by omega)
              replace hm := hm.mrk hK73 (by omega)
              replace hA := hA.mrk hK73 (by omega)
              replace hB3 := hB3.mrk hK73 (by omega)
              replace hB4 := hB4.mrk hK73 (by omega)
              replace hF31 := hF31.mrk hK73 (by omega)
              replace hM31 := hM31.mrk hK73 (by omega)
              replace hF33 := hF33.mrk hK73 (by omega)
              replace hN33 := hN33.mrk hK73 (by omega)
              replace hx35 := hx35.mrk hK73 (by omega)
              replace hB10 := hB10.mrk hK73 (by omega)
              replace hB11 := hB11.mrk hK73 (by omega)
              replace hO46 := hO46.mrk hK73 (by omega)
              replace hF60 := hF60.mrk hK73 (by omega)
              replace hM60 := hM60.mrk hK73 (by omega)
              replace hF65 := hF65.mrk hK73 (by omega)
              replace hN65 := hN65.mrk hK73 (by omega)
              refine WL_q rfl (ev_assign rfl) ?_
              refine WL_nil ?_
              refine thenE_n ?_
              refine W_seq ?_
              refine W_seq ?_
              refine W_region ?_
              refine WL_q rfl (ev_move rfl) ?_
              refine WL_q rfl (ev_lss rfl rfl) ?_
              refine WL_q rfl (ev_move rfl) ?_
              refine WL_splitv (t := 76) rfl (fun hg75 => ?_) (fun hg75 => ?_)
              · have hp75 := of_decide_eq_true hg75
                refine WL_no rfl rfl hg75 rfl ?_
                refine WL_no rfl rfl hg75 rfl ?_
                refine WL_no rfl rfl hg75 rfl ?_
                refine WL_no rfl rfl hg75 rfl ?_
                refine WL_q rfl (ev_pick_t rfl hg75 rfl) ?_
                refine WL_q rfl (ev_move rfl) ?_
                refine WL_no rfl rfl rfl rfl ?_
                refine WL_no rfl rfl rfl rfl ?_
                refine WL_no rfl rfl rfl rfl ?_
                refine WL_q rfl (ev_pick_t rfl rfl rfl) ?_
                refine WL_nil ?_
                refine thenE_n ?_
                refine W_cond_t rfl ?_
                refine W_seq ?_
                refine W_region ?_
                refine WL_q rfl (ev_assign rfl) ?_
                refine WL_nil ?_
                refine thenE_n ?_
                refine W_ret ?_
                refine thenE_r ?_
                refine ret1 rfl rfl ?_
                first | (exact ⟨rfl, hE⟩) | (exact (bneE hg75 (hr46.det1 hr35)).elim) | (exact absurd (hr46.det1 hr35) hp75) | (exact absurd (hr46.det1 hr35) (of_decide_eq_false hg75)) | (exact (bneE hg75 (hr46.det2 hr35)).elim) | (exact absurd (hr46.det2 hr35) hp75) | (exact absurd (hr46.det2 hr35) (of_decide_eq_false hg75)) | (exact (bneE hg75 (hr46.det3 hr35)).elim) | (exact absurd (hr46.det3 hr35) hp75) | (exact absurd (hr46.det3 hr35) (of_decide_eq_false hg75)) | (exact (tfX hg75).elim) | (exact (decF hg75).elim) | (exfalso; omega)
              · have hp75 := of_decide_eq_false hg75
                refine WL_qg rfl rfl hg75 rfl (ev_move rfl) ?_
                refine WL_qg rfl rfl hg75 rfl (ev_move rfl) ?_
                refine WL_mg rfl rfl hg75 rfl (ev_call rfl (eqIntSS_spec _ _ _ _ y46 y35 _ (hO46.is) hx35 (by omega))) ?_
                rintro _ w79 ⟨rfl, hE79⟩
                have hz79 := hE79.size
                replace hE := hE.trans hE79
                replace hm := hm.ext hE79
                replace hA := hA.ext hE79
                replace hB3 := hB3.ext hE79
                replace hB4 := hB4.ext hE79
                replace hF31 := hF31.ext hE79
                replace hM31 := hM31.ext hE79
                replace hF33 := hF33.ext hE79
                replace hN33 := hN33.ext hE79
                replace hx35 := hx35.ext hE79
                replace hB10 := hB10.ext hE79
                replace hB11 := hB11.ext hE79
                replace hO46 := hO46.ext hE79
                replace hF60 := hF60.ext hE79
                replace hM60 := hM60.ext hE79
                replace hF65 := hF65.ext hE79
                replace hN65 := hN65.ext hE79
                refine WL_qg rfl rfl hg75 rfl (ev_not rfl) ?_
                refine WL_q rfl (ev_pick_f rfl hg75 rfl) ?_
                refine WL_q rfl (ev_move rfl) ?_
                refine WL_splitv (t := 82) rfl (fun hg80 => ?_) (fun hg80 => ?_)
                · have hg79 := not_true hg80
                  refine WL_no rfl rfl hg80 rfl ?_
                  refine WL_no rfl rfl hg80 rfl ?_
                  refine WL_no rfl rfl hg80 rfl ?_
                  refine WL_q rfl (ev_pick_t rfl hg80 rfl) ?_
                  refine WL_nil ?_
                  refine thenE_n ?_
                  refine W_cond_t rfl ?_
                  refine W_seq ?_
                  refine W_region ?_
                  refine WL_q rfl (ev_assign rfl) ?_
                  refine WL_nil ?_
                  refine thenE_n ?_
                  refine W_ret ?_
                  refine thenE_r ?_
                  refine ret1 rfl rfl ?_
                  first | (exact ⟨rfl, hE⟩) | (exact (bneE hg79 (hr46.det1 hr35)).elim) | (exact absurd (hr46.det1 hr35) hp79) | (exact absurd (hr46.det1 hr35) (of_decide_eq_false hg79)) | (exact (bneE hg79 (hr46.det2 hr35)).elim) | (exact absurd (hr46.det2 hr35) hp79) | (exact absurd (hr46.det2 hr35) (of_decide_eq_false hg79)) | (exact (bneE hg79 (hr46.det3 hr35)).elim) | (exact absurd (hr46.det3 hr35) hp79) | (exact absurd (hr46.det3 hr35) (of_decide_eq_false hg79)) | (exact (tfX hg79).elim) | (exact (decF hg79).elim) | (exfalso; omega)
                · have hg79 := not_false hg80
                  refine WL_qg rfl rfl hg80 rfl (ev_move rfl) ?_
                  refine WL_qg rfl rfl hg80 rfl (ev_move rfl) ?_
                  refine WL_qg rfl rfl hg80 rfl (ev_neq_b Try.underlying4 rfl rfl) ?_
                  refine WL_q rfl (ev_pick_f rfl hg80 rfl) ?_
                  refine WL_nil ?_
                  refine thenE_n ?_
                  refine W_cond rfl (fun hg85 => ?_) (fun hg85 => ?_)
                  · refine W_seq ?_
                    refine W_region ?_
                    refine WL_q rfl (ev_assign rfl) ?_
                    refine WL_nil ?_
                    refine thenE_n ?_
                    refine W_ret ?_
                    refine thenE_r ?_
                    refine ret1 rfl rfl ?_
                    first | (exact ⟨rfl, hE⟩) | (exact (bneE hg85 (hr46.det1 hr35)).elim) | (exact absurd (hr46.det1 hr35) hp85) | (exact absurd (hr46.det1 hr35) (of_decide_eq_false hg85)) | (exact (bneE hg85 (hr46.det2 hr35)).elim) | (exact absurd (hr46.det2 hr35) hp85) | (exact absurd (hr46.det2 hr35) (of_decide_eq_false hg85)) | (exact (bneE hg85 (hr46.det3 hr35)).elim) | (exact absurd (hr46.det3 hr35) hp85) | (exact absurd (hr46.det3 hr35) (of_decide_eq_false hg85)) | (exact (tfX hg85).elim) | (exact (decF hg85).elim) | (exfalso; omega)
                  · refine W_skip ?_
                    refine thenE_n ?_
                    refine W_seq ?_
                    refine W_region ?_
                    refine WL_q rfl (ev_assign rfl) ?_
                    refine WL_nil ?_
                    refine thenE_n ?_
                    refine W_seq ?_
                    refine W_region ?_
                    refine WL_q rfl (ev_move rfl) ?_
                    refine WL_q rfl (ev_move rfl) ?_
                    refine WL_m rfl (ev_call rfl (markIntSS_rows _ _ _ y46 _ _ hO46 (by omega) (by omega) (by omega) (by omega))) ?_
                    rintro _ w89 ⟨rfl, hO89, hK89⟩
                    have hz89 := hK89.size
                    have hR89 := hK89
                    replace hE := hE.rg hR89 (by omega)
                    replace hm := hm.rg hR89 (by omega)
                    replace hA := hA.rg hR89 (by omega)
                    replace hB3 := hB3.rg hR89 (by omega)
                    replace hB4 := hB4.rg hR89 (by omega)
                    replace hF31 := hF31.rg hR89 (by omega)
                    replace hM31 := hM31.rg hR89 (by omega)
                    replace hF33 := hF33.rg hR89 (by omega)
                    replace hN33 := hN33.rg hR89 (by omega)
                    replace hx35 := hx35.rg hR89 (by omega)
                    replace hB10 := hB10.rg hR89 (by omega)
                    replace hB11 := hB11.rg hR89 (by omega)
                    replace hF60 := hF60.rg hR89 (by omega)
                    replace hM60 := hM60.rg hR89 (by omega)
                    replace hF65 := hF65.rg hR89 (by omega)
                    replace hN65 := hN65.rg hR89 (by omega)
                    replace hO46 := hO89
                    refine WL_q rfl (ev_assign rfl) ?_
                    refine WL_nil ?_
                    refine thenE_n ?_
                    refine W_seq ?_
                    refine W_region ?_
                    refine WL_q rfl (ev_assign rfl) ?_
                    refine WL_nil ?_
                    refine thenE_n ?_
                    refine W_seq ?_
                    refine W_region ?_
                    refine WL_q rfl (ev_move rfl) ?_
                    refine WL_q rfl (ev_move rfl) ?_
                    refine WL_m rfl (ev_call rfl (heldIntSS_spec _ _ y46 _ _ hO46.is rfl (by omega) (by omega) (by omega))) ?_
                    rintro _ w92 ⟨rfl, hE92⟩
                    have hz92 := hE92.size
                    replace hE := hE.trans hE92
                    replace hm := hm.ext hE92
                    replace hA := hA.ext hE92
                    replace hB3 := hB3.ext hE92
                    replace hB4 := hB4.ext hE92
                    replace hF31 := hF31.ext hE92
                    replace hM31 := hM31.ext hE92
                    replace hF33 := hF33.ext hE92
                    replace hN33 := hN33.ext hE92
                    replace hx35 := hx35.ext hE92
                    replace hB10 := hB10.ext hE92
                    replace hB11 := hB11.ext hE92
                    replace hO46 := hO46.ext hE92
                    replace hF60 := hF60.ext hE92
                    replace hM60 := hM60.ext hE92
                    replace hF65 := hF65.ext hE92
                    replace hN65 := hN65.ext hE92
                    refine WL_q rfl (ev_assign rfl) ?_
                    refine WL_nil ?_
                    refine thenE_n ?_
                    refine W_seq ?_
                    refine W_seq ?_
                    refine W_region ?_
                    refine WL_q rfl (ev_move rfl) ?_
                    refine WL_q rfl (ev_lss rfl rfl) ?_
                    refine WL_nil ?_
                    refine thenE_n ?_
                    refine W_cond rfl (fun hg94 => ?_) (fun hg94 => ?_)
                    · have hp94 := of_decide_eq_true hg94
                      refine W_seq ?_
                      refine W_region ?_
                      refine WL_q rfl (ev_assign rfl) ?_
                      refine WL_nil ?_
                      refine thenE_n ?_
                      refine W_ret ?_
                      refine thenE_r ?_
                      refine ret1 rfl rfl ?_
                      first | (exact ⟨rfl, hE⟩) | (exact (bneE hg94 (hr46.det1 hr35)).elim) | (exact absurd (hr46.det1 hr35) hp94) | (exact absurd (hr46.det1 hr35) (of_decide_eq_false hg94)) | (exact (bneE hg94 (hr46.det2 hr35)).elim) | (exact absurd (hr46.det2 hr35) hp94) | (exact absurd (hr46.det2 hr35) (of_decide_eq_false hg94)) | (exact (bneE hg94 (hr46.det3 hr35)).elim) | (exact absurd (hr46.det3 hr35) hp94) | (exact absurd (hr46.det3 hr35) (of_decide_eq_false hg94)) | (exact (tfX hg94).elim) | (exact (decF hg94).elim) | (exfalso; omega)
                    · have hp94 := of_decide_eq_false hg94
                      refine W_skip ?_
                      refine thenE_n ?_
                      refine W_seq ?_
                      refine W_seq ?_
                      refine W_region ?_
                      refine WL_q rfl (ev_move rfl) ?_
                      refine WL_q rfl (ev_move rfl) ?_
                      refine WL_q rfl (ev_neq rfl rfl) ?_
                      refine WL_nil ?_
                      refine thenE_n ?_
                      refine W_cond rfl (fun hg97 => ?_) (fun hg97 => ?_)
                      · have hp97 := of_decide_eq_true hg97
                        refine W_seq ?_
                        refine W_region ?_
                        refine WL_q rfl (ev_assign rfl) ?_
                        refine WL_nil ?_
                        refine thenE_n ?_
                        refine W_ret ?_
                        refine thenE_r ?_
                        refine ret1 rfl rfl ?_
                        first | (exact ⟨rfl, hE⟩) | (exact (bneE hg97 (hr46.det1 hr35)).elim) | (exact absurd (hr46.det1 hr35) hp97) | (exact absurd (hr46.det1 hr35) (of_decide_eq_false hg97)) | (exact (bneE hg97 (hr46.det2 hr35)).elim) | (exact absurd (hr46.det2 hr35) hp97) | (exact absurd (hr46.det2 hr35) (of_decide_eq_false hg97)) | (exact (bneE hg97 (hr46.det3 hr35)).elim) | (exact absurd (hr46.det3 hr35) hp97) | (exact absurd (hr46.det3 hr35) (of_decide_eq_false hg97)) | (exact (tfX hg97).elim) | (exact (decF hg97).elim) | (exfalso; omega)
                      · have hp97 := of_decide_eq_false hg97
                        refine W_skip ?_
                        refine thenE_n ?_
                        refine W_seq ?_
                        refine W_drawE [(0, true), (2, true), (4, true), (1, false), (3, false), (5, false), (6, true), (7, true), (8, true), (9, true), (10, true)] mixed (by kernel_rfl) rfl (by kernel_rfl) ?_
                        intro wd31 hEd31 hzd31
                        replace hE := hE.trans hEd31
                        replace hm := hm.ext hEd31
                        replace hA := hA.ext hEd31
                        replace hB3 := hB3.ext hEd31
                        replace hB4 := hB4.ext hEd31
                        replace hF31 := hF31.ext hEd31
                        replace hM31 := hM31.ext hEd31
                        replace hF33 := hF33.ext hEd31
                        replace hN33 := hN33.ext hEd31
                        replace hx35 := hx35.ext hEd31
                        replace hB10 := hB10.ext hEd31
                        replace hB11 := hB11.ext hEd31
                        replace hO46 := hO46.ext hEd31
                        replace hF60 := hF60.ext hEd31
                        replace hM60 := hM60.ext hEd31
                        replace hF65 := hF65.ext hEd31
                        replace hN65 := hN65.ext hEd31
                        have hDd31 := Ext.refl wd31
                        refine PW_q rfl rfl (fun wq hq => ev_loads st26 sz26 rfl (cellsB (hq.blk hB3)) rfl) ?_
                        refine PW_q rfl rfl (fun wq hq => ev_loads st29 sz29 rfl (cellsB (hq.blk hB4)) rfl) ?_
                        refine PW_q rfl rfl (fun wq hq => ev_move rfl) ?_
                        refine PW_m rfl rfl (ev_call rfl (toMachine_spec _ m _ hm (by omega) (by omega))) ?_
                        rintro _ w100 ⟨h100, rfl, hF100, hE100⟩
                        have hz100 := hE100.size
                        replace hE := hE.trans hE100
                        replace hDd31 := hDd31.trans hE100
                        have hM100 := hF100.is
                        refine ⟨hDd31, ?_⟩
                        have hm_3 := hm.ext hDd31
                        have hA_3 := hA.ext hDd31
                        have hB3_3 := hB3.ext hDd31
                        have hB4_3 := hB4.ext hDd31
                        have hF31_3 := hF31.ext hDd31
                        have hM31_3 := hM31.ext hDd31
                        have hF33_3 := hF33.ext hDd31
                        have hN33_3 := hN33.ext hDd31
                        have hx35_3 := hx35.ext hDd31
                        have hB10_3 := hB10.ext hDd31
                        have hB11_3 := hB11.ext hDd31
                        have hO46_3 := hO46.ext hDd31
                        have hF60_3 := hF60.ext hDd31
                        have hM60_3 := hM60.ext hDd31
                        have hF65_3 := hF65.ext hDd31
                        have hN65_3 := hN65.ext hDd31
                        refine PW_m rfl rfl (ev_call rfl (toNetwork_spec _ A _ hA_3 (by omega) (by omega))) ?_
                        rintro _ w102 ⟨h102, rfl, hF102, hE102⟩
                        have hz102 := hE102.size
                        replace hE := hE.trans hE102
                        replace hDd31 := hDd31.trans hE102
                        replace hF100 := hF100.ext hE102
                        replace hM100 := hM100.ext hE102
                        have hN102 := hF102.is
                        refine ⟨hDd31, ?_⟩
                        have hm_5 := hm.ext hDd31
                        have hA_5 := hA.ext hDd31
                        have hB3_5 := hB3.ext hDd31
                        have hB4_5 := hB4.ext hDd31
                        have hF31_5 := hF31.ext hDd31
                        have hM31_5 := hM31.ext hDd31
                        have hF33_5 := hF33.ext hDd31
                        have hN33_5 := hN33.ext hDd31
                        have hx35_5 := hx35.ext hDd31
                        have hB10_5 := hB10.ext hDd31
                        have hB11_5 := hB11.ext hDd31
                        have hO46_5 := hO46.ext hDd31
                        have hF60_5 := hF60.ext hDd31
                        have hM60_5 := hM60.ext hDd31
                        have hF65_5 := hF65.ext hDd31
                        have hN65_5 := hN65.ext hDd31
                        refine PW_m rfl rfl (ev_call rfl (RunMachine_spec _ m _ A _ _ hM100 (by omega) (by omega) hN102 (by omega) (by omega))) ?_
                        rintro _ w104 ⟨a104, c104, y104, q104, rfl, hr104, hO104, ⟨hl104, hm104, ht104⟩, hE104⟩
                        have hz104 := hE104.size
                        replace hE := hE.trans hE104
                        replace hDd31 := hDd31.trans hE104
                        replace hF100 := hF100.ext hE104
                        replace hM100 := hM100.ext hE104
                        replace hF102 := hF102.ext hE104
                        replace hN102 := hN102.ext hE104
                        refine ⟨hDd31, ?_⟩
                        refine PW_q rfl rfl (fun wq hq => ev_move rfl) ?_
                        refine PW_q rfl rfl (fun wq hq => ev_extract rfl rfl) ?_
                        refine PW_q rfl rfl (fun wq hq => ev_extract rfl rfl) ?_
                        refine PW_q rfl rfl (fun wq hq => ev_assign rfl) ?_
                        refine PW_q rfl rfl (fun wq hq => ev_assign rfl) ?_
                        replace hm := hm.ext hDd31
                        replace hA := hA.ext hDd31
                        replace hB3 := hB3.ext hDd31
                        replace hB4 := hB4.ext hDd31
                        replace hF31 := hF31.ext hDd31
                        replace hM31 := hM31.ext hDd31
                        replace hF33 := hF33.ext hDd31
                        replace hN33 := hN33.ext hDd31
                        replace hx35 := hx35.ext hDd31
                        replace hB10 := hB10.ext hDd31
                        replace hB11 := hB11.ext hDd31
                        replace hO46 := hO46.ext hDd31
                        replace hF60 := hF60.ext hDd31
                        replace hM60 := hM60.ext hDd31
                        replace hF65 := hF65.ext hDd31
                        replace hN65 := hN65.ext hDd31
                        refine PW_nil ?_
                        refine thenE_n ?_
                        refine W_seq ?_
                        refine W_seq ?_
                        refine W_region ?_
                        refine WL_q rfl (ev_move rfl) ?_
                        refine WL_q rfl (ev_move rfl) ?_
                        refine WL_m rfl (ev_call rfl (eqIntSS_spec _ _ _ _ y104 y35 _ (hO104.is) hx35 (by omega))) ?_
                        rintro _ w109 ⟨rfl, hE109⟩
                        have hz109 := hE109.size
                        replace hE := hE.trans hE109
                        replace hm := hm.ext hE109
                        replace hA := hA.ext hE109
                        replace hB3 := hB3.ext hE109
                        replace hB4 := hB4.ext hE109
                        replace hF31 := hF31.ext hE109
                        replace hM31 := hM31.ext hE109
                        replace hF33 := hF33.ext hE109
                        replace hN33 := hN33.ext hE109
                        replace hx35 := hx35.ext hE109
                        replace hB10 := hB10.ext hE109
                        replace hB11 := hB11.ext hE109
                        replace hO46 := hO46.ext hE109
                        replace hF60 := hF60.ext hE109
                        replace hM60 := hM60.ext hE109
                        replace hF65 := hF65.ext hE109
                        replace hN65 := hN65.ext hE109
                        replace hF100 := hF100.ext hE109
                        replace hM100 := hM100.ext hE109
                        replace hF102 := hF102.ext hE109
                        replace hN102 := hN102.ext hE109
                        replace hO104 := hO104.ext hE109
                        refine WL_q rfl (ev_not rfl) ?_
                        refine WL_q rfl (ev_move rfl) ?_
                        refine WL_splitv (t := 111) rfl (fun hg110 => ?_) (fun hg110 => ?_)
                        · have hg109 := not_true hg110
                          refine WL_no rfl rfl hg110 rfl ?_
                          refine WL_no rfl rfl hg110 rfl ?_
                          refine WL_no rfl rfl hg110 rfl ?_
                          refine WL_q rfl (ev_pick_t rfl hg110 rfl) ?_
                          refine WL_nil ?_
                          refine thenE_n ?_
                          refine W_cond_t rfl ?_
                          refine W_seq ?_
                          refine W_region ?_
                          refine WL_q rfl (ev_assign rfl) ?_
                          refine WL_nil ?_
                          refine thenE_n ?_
                          refine W_ret ?_
                          refine thenE_r ?_
                          refine ret1 rfl rfl ?_
                          first | (exact ⟨rfl, hE⟩) | (exact (bneE hg109 (hr104.det1 hr35)).elim) | (exact absurd (hr104.det1 hr35) hp109) | (exact absurd (hr104.det1 hr35) (of_decide_eq_false hg109)) | (exact (bneE hg109 (hr104.det2 hr35)).elim) | (exact absurd (hr104.det2 hr35) hp109) | (exact absurd (hr104.det2 hr35) (of_decide_eq_false hg109)) | (exact (bneE hg109 (hr104.det3 hr35)).elim) | (exact absurd (hr104.det3 hr35) hp109) | (exact absurd (hr104.det3 hr35) (of_decide_eq_false hg109)) | (exact (bneE hg109 (hr46.det1 hr35)).elim) | (exact absurd (hr46.det1 hr35) hp109) | (exact absurd (hr46.det1 hr35) (of_decide_eq_false hg109)) | (exact (bneE hg109 (hr46.det2 hr35)).elim) | (exact absurd (hr46.det2 hr35) hp109) | (exact absurd (hr46.det2 hr35) (of_decide_eq_false hg109)) | (exact (bneE hg109 (hr46.det3 hr35)).elim) | (exact absurd (hr46.det3 hr35) hp109) | (exact absurd (hr46.det3 hr35) (of_decide_eq_false hg109)) | (exact (tfX hg109).elim) | (exact (decF hg109).elim) | (exfalso; omega)
                        · have hg109 := not_false hg110
                          refine WL_qg rfl rfl hg110 rfl (ev_move rfl) ?_
                          refine WL_qg rfl rfl hg110 rfl (ev_move rfl) ?_
                          refine WL_qg rfl rfl hg110 rfl (ev_neq_b Try.underlying4 rfl rfl) ?_
                          refine WL_q rfl (ev_pick_f rfl hg110 rfl) ?_
                          refine WL_nil ?_
                          refine thenE_n ?_
                          refine W_cond rfl (fun hg114 => ?_) (fun hg114 => ?_)
                          · refine W_seq ?_
                            refine W_region ?_
                            refine WL_q rfl (ev_assign rfl) ?_
                            refine WL_nil ?_
                            refine thenE_n ?_
                            refine W_ret ?_
                            refine thenE_r ?_
                            refine ret1 rfl rfl ?_
                            first | (exact ⟨rfl, hE⟩) | (exact (bneE hg114 (hr104.det1 hr35)).elim) | (exact absurd (hr104.det1 hr35) hp114) | (exact absurd (hr104.det1 hr35) (of_decide_eq_false hg114)) | (exact (bneE hg114 (hr104.det2 hr35)).elim) | (exact absurd (hr104.det2 hr35) hp114) | (exact absurd (hr104.det2 hr35) (of_decide_eq_false hg114)) | (exact (bneE hg114 (hr104.det3 hr35)).elim) | (exact absurd (hr104.det3 hr35) hp114) | (exact absurd (hr104.det3 hr35) (of_decide_eq_false hg114)) | (exact (bneE hg114 (hr46.det1 hr35)).elim) | (exact absurd (hr46.det1 hr35) hp114) | (exact absurd (hr46.det1 hr35) (of_decide_eq_false hg114)) | (exact (bneE hg114 (hr46.det2 hr35)).elim) | (exact absurd (hr46.det2 hr35) hp114) | (exact absurd (hr46.det2 hr35) (of_decide_eq_false hg114)) | (exact (bneE hg114 (hr46.det3 hr35)).elim) | (exact absurd (hr46.det3 hr35) hp114) | (exact absurd (hr46.det3 hr35) (of_decide_eq_false hg114)) | (exact (tfX hg114).elim) | (exact (decF hg114).elim) | (exfalso; omega)
                          · refine W_skip ?_
                            refine thenE_n ?_
                            refine W_seq ?_
                            refine W_region ?_
                            refine WL_q rfl (ev_assign rfl) ?_
                            refine WL_nil ?_
                            refine thenE_n ?_
                            refine W_seq ?_
                            refine W_region ?_
                            refine WL_q rfl (ev_move rfl) ?_
                            refine WL_q rfl (ev_move rfl) ?_
                            refine WL_m rfl (ev_call rfl (heldIntSS_spec _ _ y46 _ _ hO46.is rfl (by omega) (by omega) (by omega))) ?_
                            rintro _ w118 ⟨rfl, hE118⟩
                            have hz118 := hE118.size
                            replace hE := hE.trans hE118
                            replace hm := hm.ext hE118
                            replace hA := hA.ext hE118
                            replace hB3 := hB3.ext hE118
                            replace hB4 := hB4.ext hE118
                            replace hF31 := hF31.ext hE118
                            replace hM31 := hM31.ext hE118
                            replace hF33 := hF33.ext hE118
                            replace hN33 := hN33.ext hE118
                            replace hx35 := hx35.ext hE118
                            replace hB10 := hB10.ext hE118
                            replace hB11 := hB11.ext hE118
                            replace hO46 := hO46.ext hE118
                            replace hF60 := hF60.ext hE118
                            replace hM60 := hM60.ext hE118
                            replace hF65 := hF65.ext hE118
                            replace hN65 := hN65.ext hE118
                            replace hF100 := hF100.ext hE118
                            replace hM100 := hM100.ext hE118
                            replace hF102 := hF102.ext hE118
                            replace hN102 := hN102.ext hE118
                            replace hO104 := hO104.ext hE118
                            refine WL_q rfl (ev_assign rfl) ?_
                            refine WL_nil ?_
                            refine thenE_n ?_
                            refine W_seq ?_
                            refine W_seq ?_
                            refine W_region ?_
                            refine WL_q rfl (ev_move rfl) ?_
                            refine WL_q rfl (ev_lss rfl rfl) ?_
                            refine WL_nil ?_
                            refine thenE_n ?_
                            refine W_cond rfl (fun hg120 => ?_) (fun hg120 => ?_)
                            · have hp120 := of_decide_eq_true hg120
                              refine W_seq ?_
                              refine W_region ?_
                              refine WL_q rfl (ev_assign rfl) ?_
                              refine WL_nil ?_
                              refine thenE_n ?_
                              refine W_ret ?_
                              refine thenE_r ?_
                              refine ret1 rfl rfl ?_
                              first | (exact ⟨rfl, hE⟩) | (exact (bneE hg120 (hr104.det1 hr35)).elim) | (exact absurd (hr104.det1 hr35) hp120) | (exact absurd (hr104.det1 hr35) (of_decide_eq_false hg120)) | (exact (bneE hg120 (hr104.det2 hr35)).elim) | (exact absurd (hr104.det2 hr35) hp120) | (exact absurd (hr104.det2 hr35) (of_decide_eq_false hg120)) | (exact (bneE hg120 (hr104.det3 hr35)).elim) | (exact absurd (hr104.det3 hr35) hp120) | (exact absurd (hr104.det3 hr35) (of_decide_eq_false hg120)) | (exact (bneE hg120 (hr46.det1 hr35)).elim) | (exact absurd (hr46.det1 hr35) hp120) | (exact absurd (hr46.det1 hr35) (of_decide_eq_false hg120)) | (exact (bneE hg120 (hr46.det2 hr35)).elim) | (exact absurd (hr46.det2 hr35) hp120) | (exact absurd (hr46.det2 hr35) (of_decide_eq_false hg120)) | (exact (bneE hg120 (hr46.det3 hr35)).elim) | (exact absurd (hr46.det3 hr35) hp120) | (exact absurd (hr46.det3 hr35) (of_decide_eq_false hg120)) | (exact (tfX hg120).elim) | (exact (decF hg120).elim) | (exfalso; omega)
                            · have hp120 := of_decide_eq_false hg120
                              refine W_skip ?_
                              refine thenE_n ?_
                              refine W_seq ?_
                              refine W_seq ?_
                              refine W_region ?_
                              refine WL_q rfl (ev_move rfl) ?_
                              refine WL_q rfl (ev_move rfl) ?_
                              refine WL_q rfl (ev_neq rfl rfl) ?_
                              refine WL_nil ?_
                              refine thenE_n ?_
                              refine W_cond rfl (fun hg123 => ?_) (fun hg123 => ?_)
                              · have hp123 := of_decide_eq_true hg123
                                refine W_seq ?_
                                refine W_region ?_
                                refine WL_q rfl (ev_assign rfl) ?_
                                refine WL_nil ?_
                                refine thenE_n ?_
                                refine W_ret ?_
                                refine thenE_r ?_
                                refine ret1 rfl rfl ?_
                                first | (exact ⟨rfl, hE⟩) | (exact (bneE hg123 (hr104.det1 hr35)).elim) | (exact absurd (hr104.det1 hr35) hp123) | (exact absurd (hr104.det1 hr35) (of_decide_eq_false hg123)) | (exact (bneE hg123 (hr104.det2 hr35)).elim) | (exact absurd (hr104.det2 hr35) hp123) | (exact absurd (hr104.det2 hr35) (of_decide_eq_false hg123)) | (exact (bneE hg123 (hr104.det3 hr35)).elim) | (exact absurd (hr104.det3 hr35) hp123) | (exact absurd (hr104.det3 hr35) (of_decide_eq_false hg123)) | (exact (bneE hg123 (hr46.det1 hr35)).elim) | (exact absurd (hr46.det1 hr35) hp123) | (exact absurd (hr46.det1 hr35) (of_decide_eq_false hg123)) | (exact (bneE hg123 (hr46.det2 hr35)).elim) | (exact absurd (hr46.det2 hr35) hp123) | (exact absurd (hr46.det2 hr35) (of_decide_eq_false hg123)) | (exact (bneE hg123 (hr46.det3 hr35)).elim) | (exact absurd (hr46.det3 hr35) hp123) | (exact absurd (hr46.det3 hr35) (of_decide_eq_false hg123)) | (exact (tfX hg123).elim) | (exact (decF hg123).elim) | (exfalso; omega)
                              · have hp123 := of_decide_eq_false hg123
                                refine W_skip ?_
                                refine thenE_n ?_
                                refine W_seq ?_
                                refine W_region ?_
                                refine WL_q rfl (ev_assign rfl) ?_
                                refine WL_nil ?_
                                refine thenE_n ?_
                                refine W_ret ?_
                                refine ret1 rfl rfl ?_
                                first | (exact ⟨rfl, hE⟩) | (exact (bneE hg123 (hr104.det1 hr35)).elim) | (exact absurd (hr104.det1 hr35) hp123) | (exact absurd (hr104.det1 hr35) (of_decide_eq_false hg123)) | (exact (bneE hg123 (hr104.det2 hr35)).elim) | (exact absurd (hr104.det2 hr35) hp123) | (exact absurd (hr104.det2 hr35) (of_decide_eq_false hg123)) | (exact (bneE hg123 (hr104.det3 hr35)).elim) | (exact absurd (hr104.det3 hr35) hp123) | (exact absurd (hr104.det3 hr35) (of_decide_eq_false hg123)) | (exact (bneE hg123 (hr46.det1 hr35)).elim) | (exact absurd (hr46.det1 hr35) hp123) | (exact absurd (hr46.det1 hr35) (of_decide_eq_false hg123)) | (exact (bneE hg123 (hr46.det2 hr35)).elim) | (exact absurd (hr46.det2 hr35) hp123) | (exact absurd (hr46.det2 hr35) (of_decide_eq_false hg123)) | (exact (bneE hg123 (hr46.det3 hr35)).elim) | (exact absurd (hr46.det3 hr35) hp123) | (exact absurd (hr46.det3 hr35) (of_decide_eq_false hg123)) | (exact (tfX hg123).elim) | (exact (decF hg123).elim) | (exfalso; omega)

end Go.Proofs.Ytebjcbgencenbaa
