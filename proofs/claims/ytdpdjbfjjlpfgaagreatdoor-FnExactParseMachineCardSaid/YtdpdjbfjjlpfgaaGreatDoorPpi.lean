/- impl.ParseMachine. -/
import Derived.Test.YtdpdjbfjjlpfgaaGreatDoorPml
import Derived.Test.YtdpdjbfjjlpfgaaGreatDoorMtx4
namespace Go.Proofs.YtdpdjbfjjlpfgaaGreatDoor
open Go Go.RowKit

/-- What a parser hands back: the valid machine whose text it was handed, or the empty one. -/
def PMV (s : List UInt8) (M : Mach) (q : Bool) : Prop := (q = true ∧ MOk M ∧ mtext (stD M M.output.length) = s) ∨ (q = false ∧ M = zeroM ∧ ∀ m, MOk m → mtext (stD m m.output.length) ≠ s)
theorem suf_iff {s : List UInt8} : Lib.hasSuffix s [10] = true ↔ ∃ r, s = r ++ [10] := by
  unfold Lib.hasSuffix
  rw [List.isSuffixOf_iff_suffix]
  constructor
  · rintro ⟨r, h⟩; exact ⟨r, h.symm⟩
  · rintro ⟨r, h⟩; exact ⟨r, h.symm⟩
theorem trim_suf {r : List UInt8} : Lib.trimSuffix (r ++ [10]) [10] = r := by
  unfold Lib.trimSuffix
  rw [if_pos (suf_iff.2 ⟨r, rfl⟩)]
  simp
theorem text_suf {m : Mach} : ∃ r, mtext (stD m m.output.length) = r ++ [10] := ⟨Lib.join (stD m m.output.length) [10], (join_text stD_ne).symm⟩
theorem text_lines {m : Mach} (hm : MOk m) {s : List UInt8} (e : mtext (stD m m.output.length) = s) : spl 10 (Lib.trimSuffix s [10]) = stD m m.output.length := by
  rw [← e, ← join_text stD_ne, trim_suf]
  exact spl_join stD_ne (st_ten hm)
/-- The text of a valid machine ends with a line feed. -/
theorem pm_nosuf {s : List UInt8} (h : Lib.hasSuffix s [10] = false) (m : Mach) (_ : MOk m) : mtext (stD m m.output.length) ≠ s := fun e => by
  obtain ⟨r, hr⟩ := text_suf (m := m)
  rw [suf_iff.2 ⟨r, by rw [← e, hr]⟩] at h; cases h
theorem pmI_none {s : List UInt8} (h : runM lineI 0 zeroM (spl 10 (Lib.trimSuffix s [10])) = none) (m : Mach) (hm : MOk m) : mtext (stD m m.output.length) ≠ s := fun e => by
  rw [text_lines hm e, readerI.rt hm] at h; cases h
theorem pmI_some {s : List UInt8} {M : Mach} (h : runM lineI 0 zeroM (spl 10 (Lib.trimSuffix s [10])) = some M) (m : Mach) (hm : MOk m) (e : mtext (stD m m.output.length) = s) : m = M := by
  rw [text_lines hm e, readerI.rt hm] at h; cases h; rfl
theorem opt_t {α : Type} {V : Prop} {z x r : α} {q : Bool} (h : RV z (opt V x) r q) (hq : q = true) : V ∧ r = x := by
  by_cases hv : V
  · rw [opt_yes hv] at h; exact ⟨hv, h.1⟩
  · rw [opt_no hv] at h; have := h.2; rw [hq] at this; cases this
theorem opt_f {α : Type} {V : Prop} {z x r : α} {q : Bool} (h : RV z (opt V x) r q) (hq : q = false) : ¬ V := fun hv => by
  rw [opt_yes hv] at h; have := h.2; rw [hq] at this; cases this
theorem trim_len {s : List UInt8} (h : Lib.hasSuffix s [10] = true) : (Lib.trimSuffix s [10]).length + 1 = s.length := by
  obtain ⟨r, rfl⟩ := suf_iff.1 h
  rw [trim_suf]; simp

set_option maxRecDepth 100000 in
theorem endedLines_spec {B : Nat} (s : List UInt8) (w : World) (hG : LibB B w) (hs : s.length ≤ 1048576) :
    Fn Tryz.prog 16 #[.string (bs s)] w (fun o9 w' => ∃ a c q ls, o9 = .tuple #[.slice a ls.length c, VB q] ∧ (q = true ∧ Lib.hasSuffix s [10] = true ∧ ls = spl 10 (Lib.trimSuffix s [10]) ∨ q = false ∧ Lib.hasSuffix s [10] = false ∧ ls = []) ∧ WS w.heap.size w'.heap.size w' a c ls ∧ Ext w w') := by
  have htl := Lib.trimSuffix_le s [10]
  have hE := Ext.refl w
  refine Fn_of Tryz.func16 rfl rfl (by kernel_rfl) rfl ?_
  refine W_seq ?_
  refine W_region ?_
  refine WL_q rfl (ev_assign rfl) ?_
  refine WL_q rfl (ev_assign rfl) ?_
  refine WL_nil ?_
  refine thenE_n ?_
  refine W_seq ?_
  refine W_region ?_
  refine WL_q rfl (ev_move rfl) ?_
  refine WL_m rfl (ev_call rfl (Cut_spec s _ hs)) ?_
  rintro _ _ ⟨rfl, rfl⟩
  refine WL_q rfl (ev_move rfl) ?_
  refine WL_q rfl (ev_extract rfl rfl) ?_
  refine WL_q rfl (ev_extract rfl rfl) ?_
  refine WL_q rfl (ev_assign rfl) ?_
  refine WL_q rfl (ev_assign rfl) ?_
  refine WL_nil ?_
  refine thenE_n ?_
  refine W_seq ?_
  refine W_seq ?_
  refine W_region ?_
  refine WL_q rfl (ev_move rfl) ?_
  refine WL_q rfl (ev_not rfl) ?_
  refine WL_nil ?_
  refine thenE_n ?_
  refine W_cond rfl (fun hg12 => ?_) (fun hg12 => ?_)
  · have hg10 := not_true hg12
    refine W_seq ?_
    refine W_region ?_
    refine WL_q rfl (ev_assign rfl) ?_
    refine WL_q rfl (ev_assign rfl) ?_
    refine WL_nil ?_
    refine thenE_n ?_
    refine W_ret ?_
    refine thenE_r ?_
    refine ret2 rfl rfl rfl ?_
    exact ⟨none, 0, false, [], rfl, .inr ⟨rfl, hg10, rfl⟩, WS.mk' (Nat.le_refl _) SAt.nil, hE⟩
  · have hg10 := not_false hg12
    refine W_skip ?_
    refine thenE_n ?_
    refine W_seq ?_
    refine W_region ?_
    refine WL_q rfl (ev_move rfl) ?_
    refine WL_m rfl (ev_call rfl (Split_spec 10 (Lib.trimSuffix s [10]) _ hG (by omega))) ?_
    rintro _ w14 ⟨a14, rfl, hW14, hE14⟩
    have hz14 := hE14.size
    replace hE := hE.trans hE14
    replace hG := hG.ext hE14
    refine WL_q rfl (ev_assign rfl) ?_
    refine WL_q rfl (ev_assign rfl) ?_
    refine WL_nil ?_
    refine thenE_n ?_
    refine W_ret ?_
    refine ret2 rfl rfl rfl ?_
    exact ⟨_, _, true, _, rfl, .inl ⟨rfl, hg10, rfl⟩, hW14.mono (by omega) (Nat.le_refl _), hE⟩

set_option maxRecDepth 100000 in
theorem iParseMachine_spec {B : Nat} (s : List UInt8) (w : World) (hG : LibB B w) (hs : s.length ≤ 1048576) :
    Fn Tryz.prog 5 #[.string (bs s)] w (fun o9 w' => ∃ h M q, o9 = .tuple #[machV h M, VB q] ∧ PMV s M q ∧ totM M ≤ 1048576 ∧ HM pIntO w.heap.size w'.heap.size w' h M ∧ Ext w w') := by
  have hBw := hG.1
  have hbl := bs_size s
  have hE := Ext.refl w
  refine Fn_of Tryz.func5 rfl rfl (by kernel_rfl) rfl ?_
  refine W_seq ?_
  refine W_region ?_
  refine WL_m rfl (ev_alloc zr26) ?_
  rintro _ w2 ⟨rfl, hN2⟩
  have hz2 := hN2.size
  replace hE := hE.trans hN2.ext
  replace hG := hG.ext hN2.ext
  have hB2 : Blk w2 _ _ [_, _, _, _, _, _, _] := hN2.blk
  refine WL_q rfl (ev_assign rfl) ?_
  refine WL_nil ?_
  refine thenE_n ?_
  refine W_seq ?_
  refine W_region ?_
  refine WL_q rfl (ev_move rfl) ?_
  refine WL_m rfl (ev_call rfl (endedLines_spec s _ hG hs)) ?_
  rintro _ w13 ⟨a13, c13, q13, ls, rfl, hq13, hW13, hE13⟩
  have hz13 := hE13.size
  replace hE := hE.trans hE13
  replace hG := hG.ext hE13
  replace hB2 := hB2.ext hE13
  refine WL_q rfl (ev_move rfl) ?_
  refine WL_q rfl (ev_extract rfl rfl) ?_
  refine WL_q rfl (ev_extract rfl rfl) ?_
  refine WL_q rfl (ev_assign rfl) ?_
  refine WL_q rfl (ev_assign rfl) ?_
  refine WL_nil ?_
  refine thenE_n ?_
  refine W_seq ?_
  refine W_seq ?_
  refine W_region ?_
  refine WL_q rfl (ev_move rfl) ?_
  refine WL_q rfl (ev_not rfl) ?_
  refine WL_nil ?_
  refine thenE_n ?_
  refine W_cond rfl (fun hg17 => ?_) (fun hg17 => ?_)
  · have hg15 := not_true hg17
    refine W_seq ?_
    refine W_region ?_
    refine WL_q rfl (ev_buildP0 sn26_7 zr26 ) ?_
    refine WL_s (ev_stores sz26 rfl rfl rfl (by simp [Value.oneCell']) hB2 (by simp)) ?_
    rintro _ w3_1 hS3_1
    have hz3_1 := hS3_1.size
    replace hE := hE.sto hS3_1 (by omega)
    replace hG := hG.sto hS3_1 (by omega)
    replace hW13 := hW13.sto hS3_1 (by omega)
    replace hB2 : Blk w3_1 _ _ [_, _, _, _, _, _, _] := hS3_1.blk
    refine WL_q rfl (ev_assign rfl) ?_
    refine WL_nil ?_
    refine thenE_n ?_
    refine W_ret ?_
    refine thenE_r ?_
    refine retc2 rfl rfl st26 sz26 (cellsB hB2) rfl rfl ?_
    exact ⟨⟨none, 0, none, 0, none, 0, none, 0⟩, zeroM, false, rfl, .inr ⟨rfl, rfl, (hq13.elim (fun e => absurd (e.1.symm.trans hg15) (by decide)) fun e => pm_nosuf e.2.1)⟩, Nat.zero_le _, (HM.zero hE.size).up (Nat.le_refl _) hE.size (Nat.le_refl _), hE⟩
  · have hg15 := not_false hg17
    refine W_skip ?_
    refine thenE_n ?_
    refine W_seq ?_
    refine W_region ?_
    refine WL_m rfl (ev_alloc zr26) ?_
    rintro _ w6 ⟨rfl, hN6⟩
    have hz6 := hN6.size
    replace hE := hE.trans hN6.ext
    replace hG := hG.ext hN6.ext
    replace hB2 := hB2.ext hN6.ext
    replace hW13 := hW13.ext hN6.ext
    have hB6 : Blk w6 _ _ [_, _, _, _, _, _, _] := hN6.blk
    have hM : HM pIntO (w13.heap.size + 1) w6.heap.size w6 ⟨none, 0, none, 0, none, 0, none, 0⟩ zeroM := (HM.zero (l := w13.heap.size + 1) (by omega)).up (Nat.le_refl _) (by omega) (Nat.le_refl _)
    have hsf : Lib.hasSuffix s [10] = true ∧ ls = (spl 10 (Lib.trimSuffix s [10])) := hq13.elim (·.2) fun e => absurd (e.1.symm.trans hg15) (by decide)
    have hlt9 := trim_len hsf.1
    have hll := linesLen_spl (c := 10) (l := Lib.trimSuffix s [10])
    rw [← hsf.2] at hll
    have hlg := linesLen_ge (ls := ls)
    refine WL_nil ?_
    refine thenE_n ?_
    refine W_seq ?_
    refine W_seq ?_
    refine W_region ?_
    refine WL_q rfl (ev_move rfl) ?_
    refine WL_q rfl (ev_len Tryz.underlying32 rfl) ?_
    refine WL_q rfl (ev_move rfl) ?_
    refine WL_nil ?_
    refine thenE_n ?_
    refine W_block ?_
    have hM := hM
    refine W_loopC (G := Nat × MA × Mach) [(0, _), (2, _), (6, _), (19, _), (20, _)] ((Subs.c rfl (Subs.c rfl (Subs.c rfl (Subs.c rfl (Subs.c rfl Subs.n)))))) (fun ⟨i, h, M⟩ => [(21, VI (i : Int))]) (fun ⟨i, h, M⟩ w' => Lo (w13.heap.size) w6 w' ∧ i ≤ ls.length ∧ runM lineI 0 zeroM (ls.take i) = some M ∧ Blk w' w13.heap.size 26 (mCells h M) ∧ HM pIntO (w13.heap.size + 1) w'.heap.size w' h M) (fun g => ls.length - g.1) (0, ⟨none, 0, none, 0, none, 0, none, 0⟩, zeroM) ((Subs.c (lkI rfl (by omega)) Subs.n)) (⟨Lo.refl (by omega), ⟨Nat.zero_le _, rfl, hB6, hM⟩⟩) ?_
    rintro ⟨i, ⟨a1, c1, a2, c2, a3, c3, a4, c4⟩, M⟩ wL0 ⟨hRL0, hi', hrun, hB6, hM⟩
    have hzL0 := hRL0.size
    replace hG := hG.lo hRL0 (by omega)
    replace hB2 := hB2.lo hRL0 (by omega)
    replace hW13 := hW13.lo hRL0 (by omega)
    replace hE := hE.lo hRL0 (by omega)
    have htm := runM_tot (fun _ _ _ _ h => lineI_tot h) hrun
    have hlt := linesLen_take (ls := ls) i
    have htz : totM zeroM = 0 := rfl
    have htm9 : totM M ≤ 1048576 := by omega
    refine W_seq ?_
    refine W_region ?_
    refine WL_q rfl (ev_lss rfl rfl) ?_
    refine WL_nil ?_
    refine thenE_n ?_
    refine W_seq ?_
    refine W_cond rfl (fun hg22 => ?_) (fun hg22 => ?_)
    · have hp22 := of_decide_eq_true hg22
      refine W_skip ?_
      refine thenE_n ?_
      refine W_seq ?_
      refine W_block ?_
      refine W_seq ?_
      refine W_region ?_
      have hil : i < ls.length := by omega
      have hla := linesLen_at hil
      have hlb := linesLen_take (ls := ls) (i + 1)
      refine WL_q rfl (ev_indexAddr Tryz.underlying32 sz9 rfl rfl (hW13.isSome (by omega)) (by omega) (by omega)) ?_
      refine WL_q rfl (ev_load one9 rfl (hW13.cell hil)) ?_
      refine WL_q rfl (ev_assign rfl) ?_
      refine WL_nil ?_
      refine thenE_n ?_
      refine W_seq ?_
      refine W_region ?_
      refine WL_q rfl (ev_move rfl) ?_
      refine WL_m rfl (ev_call rfl (machineLine_spec i a1 c1 a2 c2 a3 c3 a4 c4 M ls[i] _ hG (by omega) hB6 hM (by omega) (by omega) htm9)) ?_
      rintro _ w26 ⟨q26, rfl, hK26, hq26⟩
      have hz26 := hK26.size
      replace hE := hE.lo hK26 (by omega)
      replace hRL0 := hRL0.lo hK26 (by omega)
      replace hG := hG.lo hK26 (by omega)
      replace hB2 := hB2.lo hK26 (by omega)
      replace hW13 := hW13.lo hK26 (by omega)
      refine WL_q rfl (ev_not rfl) ?_
      refine WL_nil ?_
      refine thenE_n ?_
      refine W_cond rfl (fun hg27 => ?_) (fun hg27 => ?_)
      · have hg26 := not_true hg27
        refine W_seq ?_
        refine W_region ?_
        refine WL_q rfl (ev_buildP0 sn26_7 zr26 ) ?_
        refine WL_s (ev_stores sz26 rfl rfl rfl (by simp [Value.oneCell']) hB2 (by simp)) ?_
        rintro _ w9_1 hS9_1
        have hz9_1 := hS9_1.size
        replace hE := hE.sto hS9_1 (by omega)
        replace hG := hG.sto hS9_1 (by omega)
        replace hW13 := hW13.sto hS9_1 (by omega)
        replace hB2 : Blk w9_1 _ _ [_, _, _, _, _, _, _] := hS9_1.blk
        refine WL_q rfl (ev_assign rfl) ?_
        refine WL_nil ?_
        refine thenE_n ?_
        refine W_ret ?_
        refine blockE_r ?_
        refine thenE_r ?_
        refine thenE_r ?_
        refine blockE_r ?_
        refine thenE_r ?_
        refine retc2 rfl rfl st26 sz26 (cellsB hB2) rfl rfl ?_
        exact ⟨⟨none, 0, none, 0, none, 0, none, 0⟩, zeroM, false, rfl, .inr ⟨rfl, rfl, (pmI_none (by rw [← hsf.2]; exact runM_bad ((runM_take hil hrun).trans (hq26.elim (fun e => absurd (e.1.symm.trans hg26) (by decide)) (·.2)))))⟩, Nat.zero_le _, (HM.zero hE.size).up (Nat.le_refl _) hE.size (Nat.le_refl _), hE⟩
      · have hg26 := not_false hg27
        refine W_skip ?_
        refine blockE_n ?_
        refine thenE_n ?_
        refine W_region ?_
        refine WL_q rfl (ev_add rfl rfl (by omega)) ?_
        refine WL_q rfl (ev_move rfl) ?_
        refine WL_nil ?_
        refine thenE_n ?_
        obtain ⟨_, h9, M9, hln, hB9, hM9⟩ := hq26.elim id fun e => absurd (e.1.symm.trans hg26) (by decide)
        exact ⟨(i + 1, h9, M9), (Subs.c rfl (Subs.c rfl (Subs.c rfl (Subs.c rfl (Subs.c rfl Subs.n))))), (Subs.c (lkI rfl (by omega)) Subs.n), ⟨hRL0, ⟨by omega, (runM_take hil hrun).trans hln, hB9, hM9⟩⟩, by first | omega | (dsimp only; omega)⟩
    · have hp22 := of_decide_eq_false hg22
      refine W_exit ?_
      refine thenE_x ?_
      refine thenE_x ?_
      refine blockE_hit ?_
      refine thenE_n ?_
      refine W_seq ?_
      refine W_seq ?_
      refine W_region ?_
      refine WL_q rfl (ev_loads st26 sz26 rfl (cellsB hB6) rfl) ?_
      refine WL_m rfl (ev_call rfl (iMachineText_spec ⟨a1, c1, a2, c2, a3, c3, a4, c4⟩ M _ (hM.is kOwn) (Nat.le_refl _) htm9)) ?_
      rintro _ w32 ⟨sx, qx, rfl, hrx, hlx, hE32⟩
      have hz32 := hE32.size
      replace hE := hE.trans hE32
      replace hG := hG.ext hE32
      replace hB2 := hB2.ext hE32
      replace hW13 := hW13.ext hE32
      replace hB6 := hB6.ext hE32
      replace hM := hM.ext hE32
      refine WL_q rfl (ev_move rfl) ?_
      refine WL_q rfl (ev_extract rfl rfl) ?_
      refine WL_q rfl (ev_extract rfl rfl) ?_
      refine WL_q rfl (ev_assign rfl) ?_
      refine WL_q rfl (ev_assign rfl) ?_
      refine WL_nil ?_
      refine thenE_n ?_
      refine W_seq ?_
      refine W_region ?_
      refine WL_q rfl (ev_move rfl) ?_
      refine WL_q rfl (ev_not rfl) ?_
      refine WL_q rfl (ev_move rfl) ?_
      refine WL_splitv (t := 37) rfl (fun hg36 => ?_) (fun hg36 => ?_)
      · have hg34 := not_true hg36
        refine WL_no rfl rfl hg36 rfl ?_
        refine WL_no rfl rfl hg36 rfl ?_
        refine WL_no rfl rfl hg36 rfl ?_
        refine WL_q rfl (ev_pick_t rfl hg36 rfl) ?_
        refine WL_nil ?_
        refine thenE_n ?_
        refine W_cond_t rfl ?_
        refine W_seq ?_
        refine W_region ?_
        refine WL_q rfl (ev_buildP0 sn26_7 zr26 ) ?_
        refine WL_s (ev_stores sz26 rfl rfl rfl (by simp [Value.oneCell']) hB2 (by simp)) ?_
        rintro _ w13_1 hS13_1
        have hz13_1 := hS13_1.size
        replace hE := hE.sto hS13_1 (by omega)
        replace hG := hG.sto hS13_1 (by omega)
        replace hW13 := hW13.sto hS13_1 (by omega)
        replace hB6 := hB6.sto hS13_1 (by omega)
        replace hM := hM.sto hS13_1 (by omega)
        replace hB2 : Blk w13_1 _ _ [_, _, _, _, _, _, _] := hS13_1.blk
        refine WL_q rfl (ev_assign rfl) ?_
        refine WL_nil ?_
        refine thenE_n ?_
        refine W_ret ?_
        refine thenE_r ?_
        refine retc2 rfl rfl st26 sz26 (cellsB hB2) rfl rfl ?_
        have hi9 : i = ls.length := by omega
        have hfull : runM lineI 0 zeroM (spl 10 (Lib.trimSuffix s [10])) = some M := by rw [← hsf.2, ← hrun, hi9, List.take_length]
        exact ⟨⟨none, 0, none, 0, none, 0, none, 0⟩, zeroM, false, rfl, .inr ⟨rfl, rfl, (fun m hm e => opt_f hrx hg34 (pmI_some hfull m hm e ▸ hm))⟩, Nat.zero_le _, (HM.zero hE.size).up (Nat.le_refl _) hE.size (Nat.le_refl _), hE⟩
      · have hg34 := not_false hg36
        refine WL_qg rfl rfl hg36 rfl (ev_move rfl) ?_
        refine WL_qg rfl rfl hg36 rfl (ev_move rfl) ?_
        refine WL_qg rfl rfl hg36 rfl (ev_neq_str rfl rfl) ?_
        refine WL_q rfl (ev_pick_f rfl hg36 rfl) ?_
        refine WL_nil ?_
        refine thenE_n ?_
        refine W_cond rfl (fun hg40 => ?_) (fun hg40 => ?_)
        · have hp40 := of_decide_eq_true hg40
          refine W_seq ?_
          refine W_region ?_
          refine WL_q rfl (ev_buildP0 sn26_7 zr26 ) ?_
          refine WL_s (ev_stores sz26 rfl rfl rfl (by simp [Value.oneCell']) hB2 (by simp)) ?_
          rintro _ w13_1 hS13_1
          have hz13_1 := hS13_1.size
          replace hE := hE.sto hS13_1 (by omega)
          replace hG := hG.sto hS13_1 (by omega)
          replace hW13 := hW13.sto hS13_1 (by omega)
          replace hB6 := hB6.sto hS13_1 (by omega)
          replace hM := hM.sto hS13_1 (by omega)
          replace hB2 : Blk w13_1 _ _ [_, _, _, _, _, _, _] := hS13_1.blk
          refine WL_q rfl (ev_assign rfl) ?_
          refine WL_nil ?_
          refine thenE_n ?_
          refine W_ret ?_
          refine thenE_r ?_
          refine retc2 rfl rfl st26 sz26 (cellsB hB2) rfl rfl ?_
          have hi9 : i = ls.length := by omega
          have hfull : runM lineI 0 zeroM (spl 10 (Lib.trimSuffix s [10])) = some M := by rw [← hsf.2, ← hrun, hi9, List.take_length]
          exact ⟨⟨none, 0, none, 0, none, 0, none, 0⟩, zeroM, false, rfl, .inr ⟨rfl, rfl, (fun m hm e => hp40 (by have e2 := pmI_some hfull m hm e; subst e2; rw [(opt_t hrx hg34).2]; exact e))⟩, Nat.zero_le _, (HM.zero hE.size).up (Nat.le_refl _) hE.size (Nat.le_refl _), hE⟩
        · have hp40 := of_decide_eq_false hg40
          refine W_skip ?_
          refine thenE_n ?_
          refine W_seq ?_
          refine W_region ?_
          refine WL_q rfl (ev_loads st26 sz26 rfl (cellsB hB6) rfl) ?_
          refine WL_s (ev_stores sz26 rfl rfl rfl (by simp [mCells, Value.oneCell']) hB2 (by simp [mCells])) ?_
          rintro _ w14_1 hS14_1
          have hz14_1 := hS14_1.size
          replace hE := hE.sto hS14_1 (by omega)
          replace hG := hG.sto hS14_1 (by omega)
          replace hW13 := hW13.sto hS14_1 (by omega)
          replace hB6 := hB6.sto hS14_1 (by omega)
          replace hM := hM.sto hS14_1 (by omega)
          replace hB2 : Blk w14_1 _ _ [_, _, _, _, _, _, _] := hS14_1.blk
          refine WL_q rfl (ev_assign rfl) ?_
          refine WL_nil ?_
          refine thenE_n ?_
          refine W_ret ?_
          refine retc2 rfl rfl st26 sz26 (cellsB hB2) rfl rfl ?_
          have hi9 : i = ls.length := by omega
          have hfull : runM lineI 0 zeroM (spl 10 (Lib.trimSuffix s [10])) = some M := by rw [← hsf.2, ← hrun, hi9, List.take_length]
          obtain ⟨hok, htx⟩ := opt_t hrx hg34
          exact ⟨⟨a1, c1, a2, c2, a3, c3, a4, c4⟩, M, true, rfl, .inl ⟨rfl, hok, by rw [← htx]; exact Decidable.of_not_not hp40⟩, htm9, hM.up (by omega) (by omega) (Nat.le_refl _), hE⟩

end Go.Proofs.YtdpdjbfjjlpfgaaGreatDoor
