/- The walk of FnExactParseMachine. -/
import Derived.Test.YtdpdjbfjjlpfgaaGreatDoorPmk2
import Derived.Test.YtdpdjbfjjlpfgaaGreatDoorPps
namespace Go.Proofs.YtdpdjbfjjlpfgaaGreatDoor
open Go Go.RowKit

theorem PMV_det {s : List UInt8} {M M' : Mach} {q q' : Bool} (h : PMV s M q) (k : PMV s M' q') : M = M' ∧ q = q' := by
  rcases h with ⟨h1, h2, h3⟩ | ⟨h1, h2, h3⟩ <;> rcases k with ⟨k1, k2, k3⟩ | ⟨k1, k2, k3⟩
  · refine ⟨?_, by rw [h1, k1]⟩
    have e := linesS_text h2 h3
    rw [linesS_text k2 k3] at e
    have a := readerS.rt h2
    have b := readerS.rt k2
    rw [e] at b
    exact Option.some.inj (a.symm.trans b)
  · exact absurd h3 (k3 _ h2)
  · exact absurd k3 (h3 _ k2)
  · exact ⟨by rw [h2, k2], by rw [h1, k1]⟩
theorem machV_mk {h : MA} {M : Mach} {k : Int} : machV h (mkMc k M) = machV h M := by
  simp [machV, mkMc, numss_len, mkCl_len, nums_len]
theorem heldMachine_h {l r : Nat} (h : MA) (M : Mach) (k : Int) (w : World) (hI : IsMach l r w h (mkMc k M)) (hk : 0 ≤ k ∧ k ≤ 1048576) (ht : totM M ≤ 1048576) : Fn Tryz.prog 8 #[machV h M, VI k] w (fun o9 w' => o9 = VI (mkTt k M) ∧ Ext w w') := by
  rw [← machV_mk (k := k)]; exact heldMachine_m h M k w hI hk ht
theorem mkTt_pos {M : Mach} : 0 < mkTt 1 M := by unfold mkTt; omega

set_option maxHeartbeats 1000000 in
set_option maxRecDepth 100000 in
theorem law_ParseMachine {B : Nat} (s : List UInt8) (w : World) (hG : LibB B w) :
    Fn Tryz.prog 3 #[.string (bs s)] w (fun v w' => v = VB true ∧ Ext w w') := by
  have hbl := bs_size s
  have hBw := hG.1
  have hE := Ext.refl w
  refine Fn_of Tryz.func3 rfl rfl (by kernel_rfl) rfl ?_
  refine W_seq ?_
  refine W_region ?_
  refine WL_q rfl (ev_assign rfl) ?_
  refine WL_nil ?_
  refine thenE_n ?_
  refine W_seq ?_
  refine W_seq ?_
  refine W_region ?_
  refine WL_q rfl (ev_move rfl) ?_
  refine WL_q rfl (ev_len_s Tryz.underlying9 rfl) ?_
  refine WL_q rfl (ev_gtr rfl rfl) ?_
  refine WL_nil ?_
  refine thenE_n ?_
  refine W_cond rfl (fun hg13 => ?_) (fun hg13 => ?_)
  · have hp13 := of_decide_eq_true hg13
    refine W_seq ?_
    refine W_region ?_
    refine WL_q rfl (ev_assign rfl) ?_
    refine WL_nil ?_
    refine thenE_n ?_
    refine W_ret ?_
    refine thenE_r ?_
    refine ret1 rfl rfl ?_
    exact ⟨rfl, hE⟩
  · have hp13 := of_decide_eq_false hg13
    refine W_skip ?_
    refine thenE_n ?_
    refine W_seq ?_
    refine W_region ?_
    refine WL_q rfl (ev_move rfl) ?_
    refine WL_m rfl (ev_call rfl (sParseMachine_spec s _ (by omega))) ?_
    rintro _ w16 ⟨hS, MS, qS, rfl, hrS, htS, hMS, hE16⟩
    have hz16 := hE16.size
    replace hE := hE.trans hE16
    replace hG := hG.ext hE16
    refine WL_q rfl (ev_move rfl) ?_
    refine WL_q rfl (ev_extract rfl rfl) ?_
    refine WL_q rfl (ev_extract rfl rfl) ?_
    refine WL_m rfl (ev_alloc zr26) ?_
    rintro _ w3 ⟨rfl, hN3⟩
    have hz3 := hN3.size
    replace hE := hE.trans hN3.ext
    replace hG := hG.ext hN3.ext
    replace hMS := hMS.ext hN3.ext
    have hB3 : Blk w3 _ _ [_, _, _, _, _, _, _] := hN3.blk
    refine WL_s (ev_stores sz26 rfl rfl rfl (by simp [Value.oneCell']) hB3 (by simp)) ?_
    rintro _ w3_6 hS3_6
    have hz3_6 := hS3_6.size
    replace hE := hE.sto hS3_6 (by omega)
    replace hG := hG.sto hS3_6 (by omega)
    replace hMS := hMS.sto hS3_6 (by omega)
    replace hB3 : Blk w3_6 _ _ [_, _, _, _, _, _, _] := hS3_6.blk
    refine WL_q rfl (ev_assign rfl) ?_
    refine WL_nil ?_
    refine thenE_n ?_
    refine W_seq ?_
    refine W_region ?_
    refine WL_q rfl (ev_move rfl) ?_
    refine WL_m rfl (ev_call rfl (iParseMachine_spec s _ hG (by omega))) ?_
    rintro _ w21 ⟨hI, MI, qI, rfl, hrI, htI, hMI, hE21⟩
    have hz21 := hE21.size
    replace hE := hE.trans hE21
    replace hG := hG.ext hE21
    replace hMS := hMS.ext hE21
    replace hB3 := hB3.ext hE21
    obtain ⟨e1, e2⟩ := PMV_det hrI hrS
    subst e1 e2
    have hmt := mkTt_pos (M := MI)
    refine WL_q rfl (ev_move rfl) ?_
    refine WL_q rfl (ev_extract rfl rfl) ?_
    refine WL_q rfl (ev_extract rfl rfl) ?_
    refine WL_m rfl (ev_alloc zr26) ?_
    rintro _ w5 ⟨rfl, hN5⟩
    have hz5 := hN5.size
    replace hE := hE.trans hN5.ext
    replace hG := hG.ext hN5.ext
    replace hMS := hMS.ext hN5.ext
    replace hB3 := hB3.ext hN5.ext
    replace hMI := hMI.ext hN5.ext
    have hB5 : Blk w5 _ _ [_, _, _, _, _, _, _] := hN5.blk
    refine WL_s (ev_stores sz26 rfl rfl rfl (by simp [Value.oneCell']) hB5 (by simp)) ?_
    rintro _ w4_6 hS4_6
    have hz4_6 := hS4_6.size
    replace hE := hE.sto hS4_6 (by omega)
    replace hG := hG.sto hS4_6 (by omega)
    replace hMS := hMS.sto hS4_6 (by omega)
    replace hB3 := hB3.sto hS4_6 (by omega)
    replace hMI := hMI.sto hS4_6 (by omega)
    replace hB5 : Blk w4_6 _ _ [_, _, _, _, _, _, _] := hS4_6.blk
    refine WL_q rfl (ev_assign rfl) ?_
    refine WL_nil ?_
    refine thenE_n ?_
    refine W_seq ?_
    refine W_seq ?_
    refine W_region ?_
    refine WL_q rfl (ev_loads st26 sz26 rfl (cellsB hB5) rfl) ?_
    refine WL_q rfl (ev_loads st26 sz26 rfl (cellsB hB3) rfl) ?_
    refine WL_m rfl (ev_call rfl (eqMachine_spec hI hS MI _ (hMI.is kOwn) (hMS.is kInts) htI)) ?_
    rintro _ w26 ⟨rfl, hE26⟩
    have hz26 := hE26.size
    replace hE := hE.trans hE26
    replace hG := hG.ext hE26
    replace hMS := hMS.ext hE26
    replace hB3 := hB3.ext hE26
    replace hMI := hMI.ext hE26
    replace hB5 := hB5.ext hE26
    refine WL_q rfl (ev_not rfl) ?_
    refine WL_q rfl (ev_move rfl) ?_
    refine WL_splitv (t := 28) rfl (fun hg27 => ?_) (fun hg27 => ?_)
    · have hg26 := not_true hg27
      refine WL_no rfl rfl hg27 rfl ?_
      refine WL_no rfl rfl hg27 rfl ?_
      refine WL_no rfl rfl hg27 rfl ?_
      refine WL_q rfl (ev_pick_t rfl hg27 rfl) ?_
      refine WL_nil ?_
      refine thenE_n ?_
      refine W_cond_t rfl ?_
      refine W_seq ?_
      refine W_region ?_
      refine WL_q rfl (ev_assign rfl) ?_
      refine WL_nil ?_
      refine thenE_n ?_
      refine W_ret ?_
      refine thenE_r ?_
      refine ret1 rfl rfl ?_
      exact absurd hg26 (by decide)
    · have hg26 := not_false hg27
      refine WL_qg rfl rfl hg27 rfl (ev_move rfl) ?_
      refine WL_qg rfl rfl hg27 rfl (ev_move rfl) ?_
      refine WL_qg rfl rfl hg27 rfl (ev_neq_b Tryz.underlying4 rfl rfl) ?_
      refine WL_q rfl (ev_pick_f rfl hg27 rfl) ?_
      refine WL_nil ?_
      refine thenE_n ?_
      refine W_cond rfl (fun hg31 => ?_) (fun hg31 => ?_)
      · refine W_seq ?_
        refine W_region ?_
        refine WL_q rfl (ev_assign rfl) ?_
        refine WL_nil ?_
        refine thenE_n ?_
        refine W_ret ?_
        refine thenE_r ?_
        refine ret1 rfl rfl ?_
        rw [bne_self_eq_false] at hg31; cases hg31
      · refine W_skip ?_
        refine thenE_n ?_
        refine W_seq ?_
        refine W_region ?_
        refine WL_q rfl (ev_assign rfl) ?_
        refine WL_nil ?_
        refine thenE_n ?_
        refine W_seq ?_
        refine W_region ?_
        refine WL_q rfl (ev_loads st26 sz26 rfl (cellsB hB5) rfl) ?_
        refine WL_q rfl (ev_move rfl) ?_
        refine WL_m rfl (ev_call rfl (markMachine_h hI MI 1 _ hMI (by omega) htI)) ?_
        rintro _ w35 ⟨rfl, hM35, hK35⟩
        have hz35 := hK35.size
        replace hE := hE.rg hK35 (by omega)
        replace hG := hG.rg hK35 (by omega)
        replace hMS := hMS.rg hK35 (by omega)
        replace hB3 := hB3.rg hK35 (by omega)
        replace hB5 := hB5.rg hK35 (by omega)
        refine WL_q rfl (ev_assign rfl) ?_
        refine WL_nil ?_
        refine thenE_n ?_
        refine W_seq ?_
        refine W_region ?_
        refine WL_q rfl (ev_assign rfl) ?_
        refine WL_nil ?_
        refine thenE_n ?_
        refine W_seq ?_
        refine W_region ?_
        refine WL_q rfl (ev_loads st26 sz26 rfl (cellsB hB5) rfl) ?_
        refine WL_q rfl (ev_move rfl) ?_
        refine WL_m rfl (ev_call rfl (heldMachine_h hI MI 1 _ (hM35.is kOwn) (by omega) htI)) ?_
        rintro _ w38 ⟨rfl, hE38⟩
        have hz38 := hE38.size
        replace hE := hE.trans hE38
        replace hG := hG.ext hE38
        replace hMS := hMS.ext hE38
        replace hB3 := hB3.ext hE38
        replace hB5 := hB5.ext hE38
        replace hM35 := hM35.ext hE38
        refine WL_q rfl (ev_assign rfl) ?_
        refine WL_nil ?_
        refine thenE_n ?_
        refine W_seq ?_
        refine W_seq ?_
        refine W_region ?_
        refine WL_q rfl (ev_move rfl) ?_
        refine WL_q rfl (ev_lss rfl rfl) ?_
        refine WL_nil ?_
        refine thenE_n ?_
        refine W_cond rfl (fun hg40 => ?_) (fun hg40 => ?_)
        · have hp40 := of_decide_eq_true hg40
          refine W_seq ?_
          refine W_region ?_
          refine WL_q rfl (ev_assign rfl) ?_
          refine WL_nil ?_
          refine thenE_n ?_
          refine W_ret ?_
          refine thenE_r ?_
          refine ret1 rfl rfl ?_
          exact absurd hp40 (by omega)
        · have hp40 := of_decide_eq_false hg40
          refine W_skip ?_
          refine thenE_n ?_
          refine W_seq ?_
          refine W_seq ?_
          refine W_region ?_
          refine WL_q rfl (ev_move rfl) ?_
          refine WL_q rfl (ev_move rfl) ?_
          refine WL_q rfl (ev_neq rfl rfl) ?_
          refine WL_nil ?_
          refine thenE_n ?_
          refine W_cond rfl (fun hg43 => ?_) (fun hg43 => ?_)
          · have hp43 := of_decide_eq_true hg43
            refine W_seq ?_
            refine W_region ?_
            refine WL_q rfl (ev_assign rfl) ?_
            refine WL_nil ?_
            refine thenE_n ?_
            refine W_ret ?_
            refine thenE_r ?_
            refine ret1 rfl rfl ?_
            exact absurd rfl hp43
          · have hp43 := of_decide_eq_false hg43
            refine W_skip ?_
            refine thenE_n ?_
            refine W_seq ?_
            refine W_region ?_
            refine WL_q rfl (ev_move rfl) ?_
            refine WL_m rfl (ev_call rfl (iParseMachine_spec s _ hG (by omega))) ?_
            rintro _ w46 ⟨hJ, MJ, qJ, rfl, hrJ, htJ, hMJ, hE46⟩
            have hz46 := hE46.size
            replace hE := hE.trans hE46
            replace hG := hG.ext hE46
            replace hMS := hMS.ext hE46
            replace hB3 := hB3.ext hE46
            replace hB5 := hB5.ext hE46
            replace hM35 := hM35.ext hE46
            obtain ⟨e1, e2⟩ := PMV_det hrI hrJ
            subst e1 e2
            refine WL_q rfl (ev_move rfl) ?_
            refine WL_q rfl (ev_extract rfl rfl) ?_
            refine WL_q rfl (ev_extract rfl rfl) ?_
            refine WL_m rfl (ev_alloc zr26) ?_
            rintro _ w9 ⟨rfl, hN9⟩
            have hz9 := hN9.size
            replace hE := hE.trans hN9.ext
            replace hG := hG.ext hN9.ext
            replace hMS := hMS.ext hN9.ext
            replace hB3 := hB3.ext hN9.ext
            replace hB5 := hB5.ext hN9.ext
            replace hM35 := hM35.ext hN9.ext
            replace hMJ := hMJ.ext hN9.ext
            have hB9 : Blk w9 _ _ [_, _, _, _, _, _, _] := hN9.blk
            refine WL_s (ev_stores sz26 rfl rfl rfl (by simp [Value.oneCell']) hB9 (by simp)) ?_
            rintro _ w15_6 hS15_6
            have hz15_6 := hS15_6.size
            replace hE := hE.sto hS15_6 (by omega)
            replace hG := hG.sto hS15_6 (by omega)
            replace hMS := hMS.sto hS15_6 (by omega)
            replace hB3 := hB3.sto hS15_6 (by omega)
            replace hB5 := hB5.sto hS15_6 (by omega)
            replace hM35 := hM35.sto hS15_6 (by omega)
            replace hMJ := hMJ.sto hS15_6 (by omega)
            replace hB9 : Blk w15_6 _ _ [_, _, _, _, _, _, _] := hS15_6.blk
            refine WL_q rfl (ev_assign rfl) ?_
            refine WL_nil ?_
            refine thenE_n ?_
            refine W_seq ?_
            refine W_seq ?_
            refine W_region ?_
            refine WL_q rfl (ev_loads st26 sz26 rfl (cellsB hB9) rfl) ?_
            refine WL_q rfl (ev_loads st26 sz26 rfl (cellsB hB3) rfl) ?_
            refine WL_m rfl (ev_call rfl (eqMachine_spec hJ hS MI _ (hMJ.is kOwn) (hMS.is kInts) htI)) ?_
            rintro _ w51 ⟨rfl, hE51⟩
            have hz51 := hE51.size
            replace hE := hE.trans hE51
            replace hG := hG.ext hE51
            replace hMS := hMS.ext hE51
            replace hB3 := hB3.ext hE51
            replace hB5 := hB5.ext hE51
            replace hM35 := hM35.ext hE51
            replace hMJ := hMJ.ext hE51
            replace hB9 := hB9.ext hE51
            refine WL_q rfl (ev_not rfl) ?_
            refine WL_q rfl (ev_move rfl) ?_
            refine WL_splitv (t := 53) rfl (fun hg52 => ?_) (fun hg52 => ?_)
            · have hg51 := not_true hg52
              refine WL_no rfl rfl hg52 rfl ?_
              refine WL_no rfl rfl hg52 rfl ?_
              refine WL_no rfl rfl hg52 rfl ?_
              refine WL_q rfl (ev_pick_t rfl hg52 rfl) ?_
              refine WL_nil ?_
              refine thenE_n ?_
              refine W_cond_t rfl ?_
              refine W_seq ?_
              refine W_region ?_
              refine WL_q rfl (ev_assign rfl) ?_
              refine WL_nil ?_
              refine thenE_n ?_
              refine W_ret ?_
              refine thenE_r ?_
              refine ret1 rfl rfl ?_
              exact absurd hg51 (by decide)
            · have hg51 := not_false hg52
              refine WL_qg rfl rfl hg52 rfl (ev_move rfl) ?_
              refine WL_qg rfl rfl hg52 rfl (ev_move rfl) ?_
              refine WL_qg rfl rfl hg52 rfl (ev_neq_b Tryz.underlying4 rfl rfl) ?_
              refine WL_q rfl (ev_pick_f rfl hg52 rfl) ?_
              refine WL_nil ?_
              refine thenE_n ?_
              refine W_cond rfl (fun hg56 => ?_) (fun hg56 => ?_)
              · refine W_seq ?_
                refine W_region ?_
                refine WL_q rfl (ev_assign rfl) ?_
                refine WL_nil ?_
                refine thenE_n ?_
                refine W_ret ?_
                refine thenE_r ?_
                refine ret1 rfl rfl ?_
                rw [bne_self_eq_false] at hg56; cases hg56
              · refine W_skip ?_
                refine thenE_n ?_
                refine W_seq ?_
                refine W_region ?_
                refine WL_q rfl (ev_assign rfl) ?_
                refine WL_nil ?_
                refine thenE_n ?_
                refine W_seq ?_
                refine W_region ?_
                refine WL_q rfl (ev_loads st26 sz26 rfl (cellsB hB5) rfl) ?_
                refine WL_q rfl (ev_move rfl) ?_
                refine WL_m rfl (ev_call rfl (heldMachine_h hI MI 1 _ (hM35.is kOwn) (by omega) htI)) ?_
                rintro _ w60 ⟨rfl, hE60⟩
                have hz60 := hE60.size
                replace hE := hE.trans hE60
                replace hG := hG.ext hE60
                replace hMS := hMS.ext hE60
                replace hB3 := hB3.ext hE60
                replace hB5 := hB5.ext hE60
                replace hM35 := hM35.ext hE60
                replace hMJ := hMJ.ext hE60
                replace hB9 := hB9.ext hE60
                refine WL_q rfl (ev_assign rfl) ?_
                refine WL_nil ?_
                refine thenE_n ?_
                refine W_seq ?_
                refine W_seq ?_
                refine W_region ?_
                refine WL_q rfl (ev_move rfl) ?_
                refine WL_q rfl (ev_lss rfl rfl) ?_
                refine WL_nil ?_
                refine thenE_n ?_
                refine W_cond rfl (fun hg62 => ?_) (fun hg62 => ?_)
                · have hp62 := of_decide_eq_true hg62
                  refine W_seq ?_
                  refine W_region ?_
                  refine WL_q rfl (ev_assign rfl) ?_
                  refine WL_nil ?_
                  refine thenE_n ?_
                  refine W_ret ?_
                  refine thenE_r ?_
                  refine ret1 rfl rfl ?_
                  exact absurd hp62 (by omega)
                · have hp62 := of_decide_eq_false hg62
                  refine W_skip ?_
                  refine thenE_n ?_
                  refine W_seq ?_
                  refine W_seq ?_
                  refine W_region ?_
                  refine WL_q rfl (ev_move rfl) ?_
                  refine WL_q rfl (ev_move rfl) ?_
                  refine WL_q rfl (ev_neq rfl rfl) ?_
                  refine WL_nil ?_
                  refine thenE_n ?_
                  refine W_cond rfl (fun hg65 => ?_) (fun hg65 => ?_)
                  · have hp65 := of_decide_eq_true hg65
                    refine W_seq ?_
                    refine W_region ?_
                    refine WL_q rfl (ev_assign rfl) ?_
                    refine WL_nil ?_
                    refine thenE_n ?_
                    refine W_ret ?_
                    refine thenE_r ?_
                    refine ret1 rfl rfl ?_
                    exact absurd rfl hp65
                  · have hp65 := of_decide_eq_false hg65
                    refine W_skip ?_
                    refine thenE_n ?_
                    refine W_seq ?_
                    refine W_region ?_
                    refine WL_q rfl (ev_assign rfl) ?_
                    refine WL_nil ?_
                    refine thenE_n ?_
                    refine W_ret ?_
                    refine ret1 rfl rfl ?_
                    exact ⟨rfl, hE⟩

end Go.Proofs.YtdpdjbfjjlpfgaaGreatDoor
