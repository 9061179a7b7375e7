/- The walk of FnExactFibreProduct. -/
import Derived.Test.YtladejfcplpnaaaFib3
namespace Go.Proofs.Ytladejfcplpnaaa
open Go Go.RowKit

set_option maxHeartbeats 16000000 in
set_option maxRecDepth 100000 in
theorem law_FibreProduct (nA : NA) (A : Net) (nB : NA) (B : Net) (nD : NA) (D : Net) (aff : Option Addr) (cff : Nat) (ff : List Int) (agg : Option Addr) (cgg : Nat) (gg : List Int) (w : World) (hA : IsNet 0 w.heap.size w nA A) (hsA : SmN A) (hB : IsNet 0 w.heap.size w nB B) (hsB : SmN B) (hD : IsNet 0 w.heap.size w nD D) (hsD : SmN D) (hff : Ints 0 w.heap.size w aff cff ff) (hgg : Ints 0 w.heap.size w agg cgg gg) :
    Fn Try.prog 4 #[netV nA A, netV nB B, netV nD D, .slice aff ff.length cff, .slice agg gg.length cgg] w (fun v w' => v = VB true ∧ Ext w w') := by
  have hE := Ext.refl w
  refine Fn_of Try.func4 rfl rfl (by kernel_rfl) rfl ?_
  refine W_seq ?_
  refine W_region ?_
  refine WL_m rfl (ev_box rfl) ?_
  rintro _ w5 ⟨rfl, hN5⟩
  have hz5 := hN5.size
  replace hE := hE.trans hN5.ext
  replace hA := hA.ext hN5.ext
  replace hB := hB.ext hN5.ext
  replace hD := hD.ext hN5.ext
  replace hff := hff.ext hN5.ext
  replace hgg := hgg.ext hN5.ext
  have hB5 : Blk w5 _ _ [_, _, _] := hN5.blk
  refine WL_m rfl (ev_box rfl) ?_
  rintro _ w6 ⟨rfl, hN6⟩
  have hz6 := hN6.size
  replace hE := hE.trans hN6.ext
  replace hA := hA.ext hN6.ext
  replace hB := hB.ext hN6.ext
  replace hD := hD.ext hN6.ext
  replace hff := hff.ext hN6.ext
  replace hgg := hgg.ext hN6.ext
  replace hB5 := hB5.ext hN6.ext
  have hB6 : Blk w6 _ _ [_, _, _] := hN6.blk
  refine WL_m rfl (ev_box rfl) ?_
  rintro _ w7 ⟨rfl, hN7⟩
  have hz7 := hN7.size
  replace hE := hE.trans hN7.ext
  replace hA := hA.ext hN7.ext
  replace hB := hB.ext hN7.ext
  replace hD := hD.ext hN7.ext
  replace hff := hff.ext hN7.ext
  replace hgg := hgg.ext hN7.ext
  replace hB5 := hB5.ext hN7.ext
  replace hB6 := hB6.ext hN7.ext
  have hB7 : Blk w7 _ _ [_, _, _] := hN7.blk
  refine WL_q rfl (ev_assign rfl) ?_
  refine WL_nil ?_
  refine thenE_n ?_
  refine W_seq ?_
  refine W_seq ?_
  refine W_region ?_
  refine WL_q rfl (ev_move rfl) ?_
  refine WL_q rfl (ev_len Try.underlying23 rfl) ?_
  refine WL_q rfl (ev_gtr rfl rfl) ?_
  refine WL_nil ?_
  refine thenE_n ?_
  refine W_cond rfl (fun hg28 => ?_) (fun hg28 => ?_)
  · have hp28 := of_decide_eq_true hg28
    refine W_seq ?_
    refine W_region ?_
    refine WL_q rfl (ev_assign rfl) ?_
    refine WL_nil ?_
    refine thenE_n ?_
    refine W_ret ?_
    refine thenE_r ?_
    refine ret1 rfl rfl ?_
    first | (exact ⟨rfl, hE⟩) | (exact (tfX hg28).elim) | (exact (decF hg28).elim) | (exfalso; omega)
  · have hp28 := of_decide_eq_false hg28
    refine W_skip ?_
    refine thenE_n ?_
    refine W_seq ?_
    refine W_seq ?_
    refine W_region ?_
    refine WL_q rfl (ev_move rfl) ?_
    refine WL_q rfl (ev_len Try.underlying23 rfl) ?_
    refine WL_q rfl (ev_gtr rfl rfl) ?_
    refine WL_nil ?_
    refine thenE_n ?_
    refine W_cond rfl (fun hg31 => ?_) (fun hg31 => ?_)
    · have hp31 := of_decide_eq_true hg31
      refine W_seq ?_
      refine W_region ?_
      refine WL_q rfl (ev_assign rfl) ?_
      refine WL_nil ?_
      refine thenE_n ?_
      refine W_ret ?_
      refine thenE_r ?_
      refine ret1 rfl rfl ?_
      first | (exact ⟨rfl, hE⟩) | (exact (tfX hg31).elim) | (exact (decF hg31).elim) | (exfalso; omega)
    · have hp31 := of_decide_eq_false hg31
      refine W_skip ?_
      refine thenE_n ?_
      refine W_seq ?_
      refine W_region ?_
      refine WL_q rfl (ev_assign rfl) ?_
      refine WL_nil ?_
      refine thenE_n ?_
      refine W_seq ?_
      refine W_region ?_
      refine WL_q rfl (ev_loads st25 sz25 rfl (cellsB hB5) rfl) ?_
      refine WL_q rfl (ev_move rfl) ?_
      refine WL_m rfl (ev_call rfl (szNetwork_spec _ A _ _ hA (by omega) hsA)) ?_
      rintro _ w34 ⟨r34, rfl, hE34, hr34⟩
      have hz34 := hE34.size
      replace hE := hE.trans hE34
      replace hA := hA.ext hE34
      replace hB := hB.ext hE34
      replace hD := hD.ext hE34
      replace hff := hff.ext hE34
      replace hgg := hgg.ext hE34
      replace hB5 := hB5.ext hE34
      replace hB6 := hB6.ext hE34
      replace hB7 := hB7.ext hE34
      refine WL_q rfl (ev_assign rfl) ?_
      refine WL_nil ?_
      refine thenE_n ?_
      refine W_seq ?_
      refine W_seq ?_
      refine W_region ?_
      refine WL_q rfl (ev_move rfl) ?_
      refine WL_q rfl (ev_lss rfl rfl) ?_
      refine WL_nil ?_
      refine thenE_n ?_
      refine W_cond rfl (fun hg36 => ?_) (fun hg36 => ?_)
      · have hp36 := of_decide_eq_true hg36
        refine W_seq ?_
        refine W_region ?_
        refine WL_q rfl (ev_assign rfl) ?_
        refine WL_nil ?_
        refine thenE_n ?_
        refine W_ret ?_
        refine thenE_r ?_
        refine ret1 rfl rfl ?_
        first | (exact ⟨rfl, hE⟩) | (exact (tfX hg36).elim) | (exact (decF hg36).elim) | (exfalso; omega)
      · have hp36 := of_decide_eq_false hg36
        refine W_skip ?_
        refine thenE_n ?_
        refine W_seq ?_
        refine W_region ?_
        refine WL_q rfl (ev_loads st25 sz25 rfl (cellsB hB6) rfl) ?_
        refine WL_q rfl (ev_move rfl) ?_
        refine WL_m rfl (ev_call rfl (szNetwork_spec _ B _ _ hB (by omega) hsB)) ?_
        rintro _ w39 ⟨r39, rfl, hE39, hr39⟩
        have hz39 := hE39.size
        replace hE := hE.trans hE39
        replace hA := hA.ext hE39
        replace hB := hB.ext hE39
        replace hD := hD.ext hE39
        replace hff := hff.ext hE39
        replace hgg := hgg.ext hE39
        replace hB5 := hB5.ext hE39
        replace hB6 := hB6.ext hE39
        replace hB7 := hB7.ext hE39
        refine WL_q rfl (ev_assign rfl) ?_
        refine WL_nil ?_
        refine thenE_n ?_
        refine W_seq ?_
        refine W_seq ?_
        refine W_region ?_
        refine WL_q rfl (ev_move rfl) ?_
        refine WL_q rfl (ev_lss rfl rfl) ?_
        refine WL_nil ?_
        refine thenE_n ?_
        refine W_cond rfl (fun hg41 => ?_) (fun hg41 => ?_)
        · have hp41 := of_decide_eq_true hg41
          refine W_seq ?_
          refine W_region ?_
          refine WL_q rfl (ev_assign rfl) ?_
          refine WL_nil ?_
          refine thenE_n ?_
          refine W_ret ?_
          refine thenE_r ?_
          refine ret1 rfl rfl ?_
          first | (exact ⟨rfl, hE⟩) | (exact (tfX hg41).elim) | (exact (decF hg41).elim) | (exfalso; omega)
        · have hp41 := of_decide_eq_false hg41
          refine W_skip ?_
          refine thenE_n ?_
          refine W_seq ?_
          refine W_region ?_
          refine WL_q rfl (ev_loads st25 sz25 rfl (cellsB hB7) rfl) ?_
          refine WL_q rfl (ev_move rfl) ?_
          refine WL_m rfl (ev_call rfl (szNetwork_spec _ D _ _ hD (by omega) hsD)) ?_
          rintro _ w44 ⟨r44, rfl, hE44, hr44⟩
          have hz44 := hE44.size
          replace hE := hE.trans hE44
          replace hA := hA.ext hE44
          replace hB := hB.ext hE44
          replace hD := hD.ext hE44
          replace hff := hff.ext hE44
          replace hgg := hgg.ext hE44
          replace hB5 := hB5.ext hE44
          replace hB6 := hB6.ext hE44
          replace hB7 := hB7.ext hE44
          refine WL_q rfl (ev_assign rfl) ?_
          refine WL_nil ?_
          refine thenE_n ?_
          refine W_seq ?_
          refine W_seq ?_
          refine W_region ?_
          refine WL_q rfl (ev_move rfl) ?_
          refine WL_q rfl (ev_lss rfl rfl) ?_
          refine WL_nil ?_
          refine thenE_n ?_
          refine W_cond rfl (fun hg46 => ?_) (fun hg46 => ?_)
          · have hp46 := of_decide_eq_true hg46
            refine W_seq ?_
            refine W_region ?_
            refine WL_q rfl (ev_assign rfl) ?_
            refine WL_nil ?_
            refine thenE_n ?_
            refine W_ret ?_
            refine thenE_r ?_
            refine ret1 rfl rfl ?_
            first | (exact ⟨rfl, hE⟩) | (exact (tfX hg46).elim) | (exact (decF hg46).elim) | (exfalso; omega)
          · have hp46 := of_decide_eq_false hg46
            refine W_skip ?_
            refine thenE_n ?_
            refine W_seq ?_
            refine W_drawT (X := Nat × NA × Net × Bool) (fun x => [(12, ptr x.1 0), (13, VB x.2.2.2)]) (fun x w' => (w44.heap.size ≤ x.1 ∧ x.1 < w'.heap.size) ∧ Blk w' x.1 31 [.slice x.2.1.a1 x.2.2.1.ends.length x.2.1.c1, .slice x.2.1.a2 x.2.2.1.ids.length x.2.1.c2, .slice x.2.1.a3 x.2.2.1.inputs.length x.2.1.c3] ∧ RV (⟨[], [], []⟩ : Net) (opt (HF A B D ff gg ∧ 1 ≤ (PLf A B ff gg).length ∧ (PLf A B ff gg).length ≤ 40) (fibP A B ff gg)) x.2.2.1 x.2.2.2 ∧ IsNet w44.heap.size w'.heap.size w' x.2.1 x.2.2.1 ∧ totN x.2.2.1 ≤ 1048576 ∧ Ext w44 w') w44.heap.size (by omega) (.q 0 (.q 2 (.q 4 (.q 6 (.q 8 (.b 1 (.b 3 (.b 5 (.b 7 (.b 9 (.b 10 (.q 11 (.q 12 (.q 13 (.a 14 (.a 15 (.q 16 .done)))))) 14 (.a 10 (.q 11 (.q 12 (.q 13 (.a 15 (.q 16 .done))))))) 14 (.a 9 (.a 10 (.q 11 (.q 12 (.q 13 (.a 15 (.q 16 .done)))))))) 14 (.a 7 (.a 9 (.a 10 (.q 11 (.q 12 (.q 13 (.a 15 (.q 16 .done))))))))) 14 (.a 5 (.a 7 (.a 9 (.a 10 (.q 11 (.q 12 (.q 13 (.a 15 (.q 16 .done)))))))))) 14 (.a 3 (.a 5 (.a 7 (.a 9 (.a 10 (.q 11 (.q 12 (.q 13 (.a 15 (.q 16 .done))))))))))) 14 (.a 1 (.a 3 (.a 5 (.a 7 (.a 9 (.a 10 (.q 11 (.q 12 (.q 13 (.a 15 (.q 16 .done))))))))))))))))) mixed (by kernel_rfl) rfl (by kernel_rfl) ?_ ?_
            · have hT := Ext.refl w44
              intro wd15 hEd15 hzd15
              replace hE := hE.trans hEd15
              replace hT := hT.trans hEd15
              replace hA := hA.ext hEd15
              replace hB := hB.ext hEd15
              replace hD := hD.ext hEd15
              replace hff := hff.ext hEd15
              replace hgg := hgg.ext hEd15
              replace hB5 := hB5.ext hEd15
              replace hB6 := hB6.ext hEd15
              replace hB7 := hB7.ext hEd15
              have hDd15 := (Lo.refl (by omega) : Lo w44.heap.size wd15 wd15)
              refine PT_q rfl rfl (fun wq hq => ev_loads st25 sz25 rfl (cellsB (hB5.lo hq.1 (by omega))) rfl) ?_
              refine PT_q rfl rfl (fun wq hq => ev_loads st25 sz25 rfl (cellsB (hB6.lo hq.1 (by omega))) rfl) ?_
              refine PT_q rfl rfl (fun wq hq => ev_loads st25 sz25 rfl (cellsB (hB7.lo hq.1 (by omega))) rfl) ?_
              refine PT_q rfl rfl (fun wq hq => ev_move rfl) ?_
              refine PT_q rfl rfl (fun wq hq => ev_move rfl) ?_
              refine PT_b ?_ ?_
              · refine PA_m w44.heap.size rfl rfl (ev_call rfl (toNetwork_spec _ A _ hA (by omega) (by omega))) ?_
                rintro _ w49 ⟨h49, rfl, hF49, hE49⟩
                have hz49 := hE49.size
                replace hE := hE.trans hE49
                replace hT := hT.trans hE49
                replace hDd15 := hDd15.trans hE49
                replace hA := hA.ext hE49
                replace hB := hB.ext hE49
                replace hD := hD.ext hE49
                replace hff := hff.ext hE49
                replace hgg := hgg.ext hE49
                replace hB5 := hB5.ext hE49
                replace hB6 := hB6.ext hE49
                replace hB7 := hB7.ext hE49
                have hN49 := hF49.is
                refine ⟨by omega, fun _ hx => ⟨hDd15.lo hx (by omega), trivial⟩, ?_⟩
                have hDd15 := (Lo.refl (by omega) : Lo w44.heap.size w49 w49)
                refine PT_b ?_ ?_
                · refine PA_m w44.heap.size rfl rfl (ev_call rfl (toNetwork_spec _ B _ hB (by omega) (by omega))) ?_
                  rintro _ w51 ⟨h51, rfl, hF51, hE51⟩
                  have hz51 := hE51.size
                  replace hE := hE.trans hE51
                  replace hT := hT.trans hE51
                  replace hDd15 := hDd15.trans hE51
                  replace hA := hA.ext hE51
                  replace hB := hB.ext hE51
                  replace hD := hD.ext hE51
                  replace hff := hff.ext hE51
                  replace hgg := hgg.ext hE51
                  replace hB5 := hB5.ext hE51
                  replace hB6 := hB6.ext hE51
                  replace hB7 := hB7.ext hE51
                  replace hF49 := hF49.ext hE51
                  replace hN49 := hN49.ext hE51
                  have hN51 := hF51.is
                  refine ⟨by omega, fun _ hx => ⟨hDd15.lo hx (by omega), trivial⟩, ?_⟩
                  have hDd15 := (Lo.refl (by omega) : Lo w44.heap.size w51 w51)
                  refine PT_b ?_ ?_
                  · refine PA_m w44.heap.size rfl rfl (ev_call rfl (toNetwork_spec _ D _ hD (by omega) (by omega))) ?_
                    rintro _ w53 ⟨h53, rfl, hF53, hE53⟩
                    have hz53 := hE53.size
                    replace hE := hE.trans hE53
                    replace hT := hT.trans hE53
                    replace hDd15 := hDd15.trans hE53
                    replace hA := hA.ext hE53
                    replace hB := hB.ext hE53
                    replace hD := hD.ext hE53
                    replace hff := hff.ext hE53
                    replace hgg := hgg.ext hE53
                    replace hB5 := hB5.ext hE53
                    replace hB6 := hB6.ext hE53
                    replace hB7 := hB7.ext hE53
                    replace hF49 := hF49.ext hE53
                    replace hN49 := hN49.ext hE53
                    replace hF51 := hF51.ext hE53
                    replace hN51 := hN51.ext hE53
                    have hN53 := hF53.is
                    refine ⟨by omega, fun _ hx => ⟨hDd15.lo hx (by omega), trivial⟩, ?_⟩
                    have hDd15 := (Lo.refl (by omega) : Lo w44.heap.size w53 w53)
                    refine PT_b ?_ ?_
                    · refine PA_m w44.heap.size rfl rfl (ev_call rfl (toIntS_spec _ _ ff _ hff (by omega) (by omega))) ?_
                      rintro _ w55 ⟨a55, rfl, hF55, hE55⟩
                      have hz55 := hE55.size
                      replace hE := hE.trans hE55
                      replace hT := hT.trans hE55
                      replace hDd15 := hDd15.trans hE55
                      replace hA := hA.ext hE55
                      replace hB := hB.ext hE55
                      replace hD := hD.ext hE55
                      replace hff := hff.ext hE55
                      replace hgg := hgg.ext hE55
                      replace hB5 := hB5.ext hE55
                      replace hB6 := hB6.ext hE55
                      replace hB7 := hB7.ext hE55
                      replace hF49 := hF49.ext hE55
                      replace hN49 := hN49.ext hE55
                      replace hF51 := hF51.ext hE55
                      replace hN51 := hN51.ext hE55
                      replace hF53 := hF53.ext hE55
                      replace hN53 := hN53.ext hE55
                      have hI55 := hF55.is
                      refine ⟨by omega, fun _ hx => ⟨hDd15.lo hx (by omega), trivial⟩, ?_⟩
                      have hDd15 := (Lo.refl (by omega) : Lo w44.heap.size w55 w55)
                      refine PT_b ?_ ?_
                      · refine PA_m w44.heap.size rfl rfl (ev_call rfl (toIntS_spec _ _ gg _ hgg (by omega) (by omega))) ?_
                        rintro _ w57 ⟨a57, rfl, hF57, hE57⟩
                        have hz57 := hE57.size
                        replace hE := hE.trans hE57
                        replace hT := hT.trans hE57
                        replace hDd15 := hDd15.trans hE57
                        replace hA := hA.ext hE57
                        replace hB := hB.ext hE57
                        replace hD := hD.ext hE57
                        replace hff := hff.ext hE57
                        replace hgg := hgg.ext hE57
                        replace hB5 := hB5.ext hE57
                        replace hB6 := hB6.ext hE57
                        replace hB7 := hB7.ext hE57
                        replace hF49 := hF49.ext hE57
                        replace hN49 := hN49.ext hE57
                        replace hF51 := hF51.ext hE57
                        replace hN51 := hN51.ext hE57
                        replace hF53 := hF53.ext hE57
                        replace hN53 := hN53.ext hE57
                        replace hF55 := hF55.ext hE57
                        replace hI55 := hI55.ext hE57
                        have hI57 := hF57.is
                        refine ⟨by omega, fun _ hx => ⟨hDd15.lo hx (by omega), trivial⟩, ?_⟩
                        have hDd15 := (Lo.refl (by omega) : Lo w44.heap.size w57 w57)
                        refine PT_b ?_ ?_
                        · refine PA_m w44.heap.size rfl rfl (ev_call rfl (sFibreProduct_spec _ A _ B _ D _ _ ff _ _ gg _ hN49 (by omega) (by omega) hN51 (by omega) (by omega) hN53 (by omega) (by omega) hI55 (by omega) (by omega) hI57 (by omega) (by omega))) ?_
                          rintro _ w58 ⟨h58, U58, q58, rfl, hr58, hN58, hl58, hE58⟩
                          have hz58 := hE58.size
                          replace hE := hE.trans hE58
                          replace hT := hT.trans hE58
                          replace hDd15 := hDd15.trans hE58
                          replace hA := hA.ext hE58
                          replace hB := hB.ext hE58
                          replace hD := hD.ext hE58
                          replace hff := hff.ext hE58
                          replace hgg := hgg.ext hE58
                          replace hB5 := hB5.ext hE58
                          replace hB6 := hB6.ext hE58
                          replace hB7 := hB7.ext hE58
                          replace hF49 := hF49.ext hE58
                          replace hN49 := hN49.ext hE58
                          replace hF51 := hF51.ext hE58
                          replace hN51 := hN51.ext hE58
                          replace hF53 := hF53.ext hE58
                          replace hN53 := hN53.ext hE58
                          replace hF55 := hF55.ext hE58
                          replace hI55 := hI55.ext hE58
                          replace hF57 := hF57.ext hE58
                          replace hI57 := hI57.ext hE58
                          refine ⟨by omega, fun _ hx => ⟨hDd15.lo hx (by omega), trivial⟩, ?_⟩
                          have hDd15 := (Lo.refl (by omega) : Lo w44.heap.size w58 w58)
                          refine PT_q rfl rfl (fun wq hq => ev_move rfl) ?_
                          refine PT_q rfl rfl (fun wq hq => ev_extract rfl rfl) ?_
                          refine PT_q rfl rfl (fun wq hq => ev_extract rfl rfl) ?_
                          refine PT_a ?_
                          refine PA_m w44.heap.size rfl rfl (ev_alloc zr31) ?_
                          rintro _ w12 ⟨rfl, hN12⟩
                          have hz12 := hN12.size
                          replace hE := hE.trans hN12.ext
                          replace hT := hT.trans hN12.ext
                          replace hDd15 := hDd15.trans hN12.ext
                          replace hA := hA.ext hN12.ext
                          replace hB := hB.ext hN12.ext
                          replace hD := hD.ext hN12.ext
                          replace hff := hff.ext hN12.ext
                          replace hgg := hgg.ext hN12.ext
                          replace hB5 := hB5.ext hN12.ext
                          replace hB6 := hB6.ext hN12.ext
                          replace hB7 := hB7.ext hN12.ext
                          replace hF49 := hF49.ext hN12.ext
                          replace hN49 := hN49.ext hN12.ext
                          replace hF51 := hF51.ext hN12.ext
                          replace hN51 := hN51.ext hN12.ext
                          replace hF53 := hF53.ext hN12.ext
                          replace hN53 := hN53.ext hN12.ext
                          replace hF55 := hF55.ext hN12.ext
                          replace hI55 := hI55.ext hN12.ext
                          replace hF57 := hF57.ext hN12.ext
                          replace hI57 := hI57.ext hN12.ext
                          replace hN58 := hN58.ext hN12.ext
                          have hB12 : Blk w12 _ _ [_, _, _] := hN12.blk
                          refine ⟨by omega, fun _ hx => ⟨hDd15.lo hx (by omega), trivial⟩, ?_⟩
                          have hDd15 := (Lo.refl (by omega) : Lo w44.heap.size w12 w12)
                          refine PT_a ?_
                          refine PA_s w44.heap.size rfl (ev_stores sz31 rfl rfl rfl (by simp [Value.oneCell']) hB12 (by simp)) ?_
                          rintro _ w15_15 hS15_15
                          have hz15_15 := hS15_15.size
                          replace hE := hE.sto hS15_15 (by omega)
                          replace hT := hT.sto hS15_15 (by omega)
                          replace hDd15 := hDd15.sto hS15_15 (by omega)
                          replace hA := hA.sto hS15_15 (by omega)
                          replace hB := hB.sto hS15_15 (by omega)
                          replace hD := hD.sto hS15_15 (by omega)
                          replace hff := hff.sto hS15_15 (by omega)
                          replace hgg := hgg.sto hS15_15 (by omega)
                          replace hB5 := hB5.sto hS15_15 (by omega)
                          replace hB6 := hB6.sto hS15_15 (by omega)
                          replace hB7 := hB7.sto hS15_15 (by omega)
                          replace hF49 := hF49.sto hS15_15 (by omega)
                          replace hN49 := hN49.sto hS15_15 (by omega)
                          replace hF51 := hF51.sto hS15_15 (by omega)
                          replace hN51 := hN51.sto hS15_15 (by omega)
                          replace hF53 := hF53.sto hS15_15 (by omega)
                          replace hN53 := hN53.sto hS15_15 (by omega)
                          replace hF55 := hF55.sto hS15_15 (by omega)
                          replace hI55 := hI55.sto hS15_15 (by omega)
                          replace hF57 := hF57.sto hS15_15 (by omega)
                          replace hI57 := hI57.sto hS15_15 (by omega)
                          replace hN58 := hN58.sto hS15_15 (by omega)
                          replace hB12 : Blk w15_15 _ _ [_, _, _] := hS15_15.blk
                          refine ⟨by omega, fun _ hx => ⟨hDd15.lo hx (by omega), trivial⟩, ?_⟩
                          have hDd15 := (Lo.refl (by omega) : Lo w44.heap.size w15_15 w15_15)
                          refine PT_q rfl rfl (fun wq hq => ev_assign rfl) ?_
                          exact PT_nil 16 ⟨hB12.num, h58, U58, q58⟩ rfl ⟨rfl, rfl, trivial⟩ rfl ⟨⟨(by (try dsimp only [Blk.num]); omega), (by (try dsimp only [Blk.num]); omega)⟩, hB12, hr58, hN58.mono (by (try dsimp only [Blk.num]); omega) (by (try dsimp only [Blk.num]); omega), hl58, hT⟩
                        · refine PA_m w44.heap.size rfl rfl (ev_alloc zr31) ?_
                          rintro _ w12 ⟨rfl, hN12⟩
                          have hz12 := hN12.size
                          replace hE := hE.trans hN12.ext
                          replace hT := hT.trans hN12.ext
                          replace hDd15 := hDd15.trans hN12.ext
                          replace hA := hA.ext hN12.ext
                          replace hB := hB.ext hN12.ext
                          replace hD := hD.ext hN12.ext
                          replace hff := hff.ext hN12.ext
                          replace hgg := hgg.ext hN12.ext
                          replace hB5 := hB5.ext hN12.ext
                          replace hB6 := hB6.ext hN12.ext
                          replace hB7 := hB7.ext hN12.ext
                          replace hF49 := hF49.ext hN12.ext
                          replace hN49 := hN49.ext hN12.ext
                          replace hF51 := hF51.ext hN12.ext
                          replace hN51 := hN51.ext hN12.ext
                          replace hF53 := hF53.ext hN12.ext
                          replace hN53 := hN53.ext hN12.ext
                          replace hF55 := hF55.ext hN12.ext
                          replace hI55 := hI55.ext hN12.ext
                          replace hF57 := hF57.ext hN12.ext
                          replace hI57 := hI57.ext hN12.ext
                          have hB12 : Blk w12 _ _ [_, _, _] := hN12.blk
                          refine ⟨by omega, fun _ hx => ⟨hDd15.lo hx (by omega), trivial⟩, ?_⟩
                          have hDd15 := (Lo.refl (by omega) : Lo w44.heap.size w12 w12)
                          refine PT_a ?_
                          refine PA_m w44.heap.size rfl rfl (ev_call rfl (sFibreProduct_spec _ A _ B _ D _ _ ff _ _ gg _ hN49 (by omega) (by omega) hN51 (by omega) (by omega) hN53 (by omega) (by omega) hI55 (by omega) (by omega) hI57 (by omega) (by omega))) ?_
                          rintro _ w58 ⟨h58, U58, q58, rfl, hr58, hN58, hl58, hE58⟩
                          have hz58 := hE58.size
                          replace hE := hE.trans hE58
                          replace hT := hT.trans hE58
                          replace hDd15 := hDd15.trans hE58
                          replace hA := hA.ext hE58
                          replace hB := hB.ext hE58
                          replace hD := hD.ext hE58
                          replace hff := hff.ext hE58
                          replace hgg := hgg.ext hE58
                          replace hB5 := hB5.ext hE58
                          replace hB6 := hB6.ext hE58
                          replace hB7 := hB7.ext hE58
                          replace hF49 := hF49.ext hE58
                          replace hN49 := hN49.ext hE58
                          replace hF51 := hF51.ext hE58
                          replace hN51 := hN51.ext hE58
                          replace hF53 := hF53.ext hE58
                          replace hN53 := hN53.ext hE58
                          replace hF55 := hF55.ext hE58
                          replace hI55 := hI55.ext hE58
                          replace hF57 := hF57.ext hE58
                          replace hI57 := hI57.ext hE58
                          replace hB12 := hB12.ext hE58
                          refine ⟨by omega, fun _ hx => ⟨hDd15.lo hx (by omega), trivial⟩, ?_⟩
                          have hDd15 := (Lo.refl (by omega) : Lo w44.heap.size w58 w58)
                          refine PT_q rfl rfl (fun wq hq => ev_move rfl) ?_
                          refine PT_q rfl rfl (fun wq hq => ev_extract rfl rfl) ?_
                          refine PT_q rfl rfl (fun wq hq => ev_extract rfl rfl) ?_
                          refine PT_a ?_
                          refine PA_s w44.heap.size rfl (ev_stores sz31 rfl rfl rfl (by simp [Value.oneCell']) hB12 (by simp)) ?_
                          rintro _ w15_15 hS15_15
                          have hz15_15 := hS15_15.size
                          replace hE := hE.sto hS15_15 (by omega)
                          replace hT := hT.sto hS15_15 (by omega)
                          replace hDd15 := hDd15.sto hS15_15 (by omega)
                          replace hA := hA.sto hS15_15 (by omega)
                          replace hB := hB.sto hS15_15 (by omega)
                          replace hD := hD.sto hS15_15 (by omega)
                          replace hff := hff.sto hS15_15 (by omega)
                          replace hgg := hgg.sto hS15_15 (by omega)
                          replace hB5 := hB5.sto hS15_15 (by omega)
                          replace hB6 := hB6.sto hS15_15 (by omega)
                          replace hB7 := hB7.sto hS15_15 (by omega)
                          replace hF49 := hF49.sto hS15_15 (by omega)
                          replace hN49 := hN49.sto hS15_15 (by omega)
                          replace hF51 := hF51.sto hS15_15 (by omega)
                          replace hN51 := hN51.sto hS15_15 (by omega)
                          replace hF53 := hF53.sto hS15_15 (by omega)
                          replace hN53 := hN53.sto hS15_15 (by omega)
                          replace hF55 := hF55.sto hS15_15 (by omega)
                          replace hI55 := hI55.sto hS15_15 (by omega)
                          replace hF57 := hF57.sto hS15_15 (by omega)
                          replace hI57 := hI57.sto hS15_15 (by omega)
                          replace hN58 := hN58.sto hS15_15 (by omega)
                          replace hB12 : Blk w15_15 _ _ [_, _, _] := hS15_15.blk
                          refine ⟨by omega, fun _ hx => ⟨hDd15.lo hx (by omega), trivial⟩, ?_⟩
                          have hDd15 := (Lo.refl (by omega) : Lo w44.heap.size w15_15 w15_15)
                          refine PT_q rfl rfl (fun wq hq => ev_assign rfl) ?_
                          exact PT_nil 16 ⟨hB12.num, h58, U58, q58⟩ rfl ⟨rfl, rfl, trivial⟩ rfl ⟨⟨(by (try dsimp only [Blk.num]); omega), (by (try dsimp only [Blk.num]); omega)⟩, hB12, hr58, hN58.mono (by (try dsimp only [Blk.num]); omega) (by (try dsimp only [Blk.num]); omega), hl58, hT⟩
                      · refine PA_m w44.heap.size rfl rfl (ev_alloc zr31) ?_
                        rintro _ w12 ⟨rfl, hN12⟩
                        have hz12 := hN12.size
                        replace hE := hE.trans hN12.ext
                        replace hT := hT.trans hN12.ext
                        replace hDd15 := hDd15.trans hN12.ext
                        replace hA := hA.ext hN12.ext
                        replace hB := hB.ext hN12.ext
                        replace hD := hD.ext hN12.ext
                        replace hff := hff.ext hN12.ext
                        replace hgg := hgg.ext hN12.ext
                        replace hB5 := hB5.ext hN12.ext
                        replace hB6 := hB6.ext hN12.ext
                        replace hB7 := hB7.ext hN12.ext
                        replace hF49 := hF49.ext hN12.ext
                        replace hN49 := hN49.ext hN12.ext
                        replace hF51 := hF51.ext hN12.ext
                        replace hN51 := hN51.ext hN12.ext
                        replace hF53 := hF53.ext hN12.ext
                        replace hN53 := hN53.ext hN12.ext
                        replace hF55 := hF55.ext hN12.ext
                        replace hI55 := hI55.ext hN12.ext
                        have hB12 : Blk w12 _ _ [_, _, _] := hN12.blk
                        refine ⟨by omega, fun _ hx => ⟨hDd15.lo hx (by omega), trivial⟩, ?_⟩
                        have hDd15 := (Lo.refl (by omega) : Lo w44.heap.size w12 w12)
                        refine PT_a ?_
                        refine PA_m w44.heap.size rfl rfl (ev_call rfl (toIntS_spec _ _ gg _ hgg (by omega) (by omega))) ?_
                        rintro _ w57 ⟨a57, rfl, hF57, hE57⟩
                        have hz57 := hE57.size
                        replace hE := hE.trans hE57
                        replace hT := hT.trans hE57
                        replace hDd15 := hDd15.trans hE57
                        replace hA := hA.ext hE57
                        replace hB := hB.ext hE57
                        replace hD := hD.ext hE57
                        replace hff := hff.ext hE57
                        replace hgg := hgg.ext hE57
                        replace hB5 := hB5.ext hE57
                        replace hB6 := hB6.ext hE57
                        replace hB7 := hB7.ext hE57
                        replace hF49 := hF49.ext hE57
                        replace hN49 := hN49.ext hE57
                        replace hF51 := hF51.ext hE57
                        replace hN51 := hN51.ext hE57
                        replace hF53 := hF53.ext hE57
                        replace hN53 := hN53.ext hE57
                        replace hF55 := hF55.ext hE57
                        replace hI55 := hI55.ext hE57
                        replace hB12 := hB12.ext hE57
                        have hI57 := hF57.is
                        refine ⟨by omega, fun _ hx => ⟨hDd15.lo hx (by omega), trivial⟩, ?_⟩
                        have hDd15 := (Lo.refl (by omega) : Lo w44.heap.size w57 w57)
                        refine PT_a ?_
                        refine PA_m w44.heap.size rfl rfl (ev_call rfl (sFibreProduct_spec _ A _ B _ D _ _ ff _ _ gg _ hN49 (by omega) (by omega) hN51 (by omega) (by omega) hN53 (by omega) (by omega) hI55 (by omega) (by omega) hI57 (by omega) (by omega))) ?_
                        rintro _ w58 ⟨h58, U58, q58, rfl, hr58, hN58, hl58, hE58⟩
                        have hz58 := hE58.size
                        replace hE := hE.trans hE58
                        replace hT := hT.trans hE58
                        replace hDd15 := hDd15.trans hE58
                        replace hA := hA.ext hE58
                        replace hB := hB.ext hE58
                        replace hD := hD.ext hE58
                        replace hff := hff.ext hE58
                        replace hgg := hgg.ext hE58
                        replace hB5 := hB5.ext hE58
                        replace hB6 := hB6.ext hE58
                        replace hB7 := hB7.ext hE58
                        replace hF49 := hF49.ext hE58
                        replace hN49 := hN49.ext hE58
                        replace hF51 := hF51.ext hE58
                        replace hN51 := hN51.ext hE58
                        replace hF53 := hF53.ext hE58
                        replace hN53 := hN53.ext hE58
                        replace hF55 := hF55.ext hE58
                        replace hI55 := hI55.ext hE58
                        replace hB12 := hB12.ext hE58
                        replace hF57 := hF57.ext hE58
                        replace hI57 := hI57.ext hE58
                        refine ⟨by omega, fun _ hx => ⟨hDd15.lo hx (by omega), trivial⟩, ?_⟩
                        have hDd15 := (Lo.refl (by omega) : Lo w44.heap.size w58 w58)
                        refine PT_q rfl rfl (fun wq hq => ev_move rfl) ?_
                        refine PT_q rfl rfl (fun wq hq => ev_extract rfl rfl) ?_
                        refine PT_q rfl rfl (fun wq hq => ev_extract rfl rfl) ?_
                        refine PT_a ?_
                        refine PA_s w44.heap.size rfl (ev_stores sz31 rfl rfl rfl (by simp [Value.oneCell']) hB12 (by simp)) ?_
                        rintro _ w15_15 hS15_15
                        have hz15_15 := hS15_15.size
                        replace hE := hE.sto hS15_15 (by omega)
                        replace hT := hT.sto hS15_15 (by omega)
                        replace hDd15 := hDd15.sto hS15_15 (by omega)
                        replace hA := hA.sto hS15_15 (by omega)
                        replace hB := hB.sto hS15_15 (by omega)
                        replace hD := hD.sto hS15_15 (by omega)
                        replace hff := hff.sto hS15_15 (by omega)
                        replace hgg := hgg.sto hS15_15 (by omega)
                        replace hB5 := hB5.sto hS15_15 (by omega)
                        replace hB6 := hB6.sto hS15_15 (by omega)
                        replace hB7 := hB7.sto hS15_15 (by omega)
                        replace hF49 := hF49.sto hS15_15 (by omega)
                        replace hN49 := hN49.sto hS15_15 (by omega)
                        replace hF51 := hF51.sto hS15_15 (by omega)
                        replace hN51 := hN51.sto hS15_15 (by omega)
                        replace hF53 := hF53.sto hS15_15 (by omega)
                        replace hN53 := hN53.sto hS15_15 (by omega)
                        replace hF55 := hF55.sto hS15_15 (by omega)
                        replace hI55 := hI55.sto hS15_15 (by omega)
                        replace hF57 := hF57.sto hS15_15 (by omega)
                        replace hI57 := hI57.sto hS15_15 (by omega)
                        replace hN58 := hN58.sto hS15_15 (by omega)
                        replace hB12 : Blk w15_15 _ _ [_, _, _] := hS15_15.blk
                        refine ⟨by omega, fun _ hx => ⟨hDd15.lo hx (by omega), trivial⟩, ?_⟩
                        have hDd15 := (Lo.refl (by omega) : Lo w44.heap.size w15_15 w15_15)
                        refine PT_q rfl rfl (fun wq hq => ev_assign rfl) ?_
                        exact PT_nil 16 ⟨hB12.num, h58, U58, q58⟩ rfl ⟨rfl, rfl, trivial⟩ rfl ⟨⟨(by (try dsimp only [Blk.num]); omega), (by (try dsimp only [Blk.num]); omega)⟩, hB12, hr58, hN58.mono (by (try dsimp only [Blk.num]); omega) (by (try dsimp only [Blk.num]); omega), hl58, hT⟩
                    · refine PA_m w44.heap.size rfl rfl (ev_alloc zr31) ?_
                      rintro _ w12 ⟨rfl, hN12⟩
                      have hz12 := hN12.size
                      replace hE := hE.trans hN12.ext
                      replace hT := hT.trans hN12.ext
                      replace hDd15 := hDd15.trans hN12.ext
                      replace hA := hA.ext hN12.ext
                      replace hB := hB.ext hN12.ext
                      replace hD := hD.ext hN12.ext
                      replace hff := hff.ext hN12.ext
                      replace hgg := hgg.ext hN12.ext
                      replace hB5 := hB5.ext hN12.ext
                      replace hB6 := hB6.ext hN12.ext
                      replace hB7 := hB7.ext hN12.ext
                      replace hF49 := hF49.ext hN12.ext
                      replace hN49 := hN49.ext hN12.ext
                      replace hF51 := hF51.ext hN12.ext
                      replace hN51 := hN51.ext hN12.ext
                      replace hF53 := hF53.ext hN12.ext
                      replace hN53 := hN53.ext hN12.ext
                      have hB12 : Blk w12 _ _ [_, _, _] := hN12.blk
                      refine ⟨by omega, fun _ hx => ⟨hDd15.lo hx (by omega), trivial⟩, ?_⟩
                      have hDd15 := (Lo.refl (by omega) : Lo w44.heap.size w12 w12)
                      refine PT_a ?_
                      refine PA_m w44.heap.size rfl rfl (ev_call rfl (toIntS_spec _ _ ff _ hff (by omega) (by omega))) ?_
                      rintro _ w55 ⟨a55, rfl, hF55, hE55⟩
                      have hz55 := hE55.size
                      replace hE := hE.trans hE55
                      replace hT := hT.trans hE55
                      replace hDd15 := hDd15.trans hE55
                      replace hA := hA.ext hE55
                      replace hB := hB.ext hE55
                      replace hD := hD.ext hE55
                      replace hff := hff.ext hE55
                      replace hgg := hgg.ext hE55
                      replace hB5 := hB5.ext hE55
                      replace hB6 := hB6.ext hE55
                      replace hB7 := hB7.ext hE55
                      replace hF49 := hF49.ext hE55
                      replace hN49 := hN49.ext hE55
                      replace hF51 := hF51.ext hE55
                      replace hN51 := hN51.ext hE55
                      replace hF53 := hF53.ext hE55
                      replace hN53 := hN53.ext hE55
                      replace hB12 := hB12.ext hE55
                      have hI55 := hF55.is
                      refine ⟨by omega, fun _ hx => ⟨hDd15.lo hx (by omega), trivial⟩, ?_⟩
                      have hDd15 := (Lo.refl (by omega) : Lo w44.heap.size w55 w55)
                      refine PT_a ?_
                      refine PA_m w44.heap.size rfl rfl (ev_call rfl (toIntS_spec _ _ gg _ hgg (by omega) (by omega))) ?_
                      rintro _ w57 ⟨a57, rfl, hF57, hE57⟩
                      have hz57 := hE57.size
                      replace hE := hE.trans hE57
                      replace hT := hT.trans hE57
                      replace hDd15 := hDd15.trans hE57
                      replace hA := hA.ext hE57
                      replace hB := hB.ext hE57
                      replace hD := hD.ext hE57
                      replace hff := hff.ext hE57
                      replace hgg := hgg.ext hE57
                      replace hB5 := hB5.ext hE57
                      replace hB6 := hB6.ext hE57
                      replace hB7 := hB7.ext hE57
                      replace hF49 := hF49.ext hE57
                      replace hN49 := hN49.ext hE57
                      replace hF51 := hF51.ext hE57
                      replace hN51 := hN51.ext hE57
                      replace hF53 := hF53.ext hE57
                      replace hN53 := hN53.ext hE57
                      replace hB12 := hB12.ext hE57
                      replace hF55 := hF55.ext hE57
                      replace hI55 := hI55.ext hE57
                      have hI57 := hF57.is
                      refine ⟨by omega, fun _ hx => ⟨hDd15.lo hx (by omega), trivial⟩, ?_⟩
                      have hDd15 := (Lo.refl (by omega) : Lo w44.heap.size w57 w57)
                      refine PT_a ?_
                      refine PA_m w44.heap.size rfl rfl (ev_call rfl (sFibreProduct_spec _ A _ B _ D _ _ ff _ _ gg _ hN49 (by omega) (by omega) hN51 (by omega) (by omega) hN53 (by omega) (by omega) hI55 (by omega) (by omega) hI57 (by omega) (by omega))) ?_
                      rintro _ w58 ⟨h58, U58, q58, rfl, hr58, hN58, hl58, hE58⟩
                      have hz58 := hE58.size
                      replace hE := hE.trans hE58
                      replace hT := hT.trans hE58
                      replace hDd15 := hDd15.trans hE58
                      replace hA := hA.ext hE58
                      replace hB := hB.ext hE58
                      replace hD := hD.ext hE58
                      replace hff := hff.ext hE58
                      replace hgg := hgg.ext hE58
                      replace hB5 := hB5.ext hE58
                      replace hB6 := hB6.ext hE58
                      replace hB7 := hB7.ext hE58
                      replace hF49 := hF49.ext hE58
                      replace hN49 := hN49.ext hE58
                      replace hF51 := hF51.ext hE58
                      replace hN51 := hN51.ext hE58
                      replace hF53 := hF53.ext hE58
                      replace hN53 := hN53.ext hE58
                      replace hB12 := hB12.ext hE58
                      replace hF55 := hF55.ext hE58
                      replace hI55 := hI55.ext hE58
                      replace hF57 := hF57.ext hE58
                      replace hI57 := hI57.ext hE58
                      refine ⟨by omega, fun _ hx => ⟨hDd15.lo hx (by omega), trivial⟩, ?_⟩
                      have hDd15 := (Lo.refl (by omega) : Lo w44.heap.size w58 w58)
                      refine PT_q rfl rfl (fun wq hq => ev_move rfl) ?_
                      refine PT_q rfl rfl (fun wq hq => ev_extract rfl rfl) ?_
                      refine PT_q rfl rfl (fun wq hq => ev_extract rfl rfl) ?_
                      refine PT_a ?_
                      refine PA_s w44.heap.size rfl (ev_stores sz31 rfl rfl rfl (by simp [Value.oneCell']) hB12 (by simp)) ?_
                      rintro _ w15_15 hS15_15
                      have hz15_15 := hS15_15.size
                      replace hE := hE.sto hS15_15 (by omega)
                      replace hT := hT.sto hS15_15 (by omega)
                      replace hDd15 := hDd15.sto hS15_15 (by omega)
                      replace hA := hA.sto hS15_15 (by omega)
                      replace hB := hB.sto hS15_15 (by omega)
                      replace hD := hD.sto hS15_15 (by omega)
                      replace hff := hff.sto hS15_15 (by omega)
                      replace hgg := hgg.sto hS15_15 (by omega)
                      replace hB5 := hB5.sto hS15_15 (by omega)
                      replace hB6 := hB6.sto hS15_15 (by omega)
                      replace hB7 := hB7.sto hS15_15 (by omega)
                      replace hF49 := hF49.sto hS15_15 (by omega)
                      replace hN49 := hN49.sto hS15_15 (by omega)
                      replace hF51 := hF51.sto hS15_15 (by omega)
                      replace hN51 := hN51.sto hS15_15 (by omega)
                      replace hF53 := hF53.sto hS15_15 (by omega)
                      replace hN53 := hN53.sto hS15_15 (by omega)
                      replace hF55 := hF55.sto hS15_15 (by omega)
                      replace hI55 := hI55.sto hS15_15 (by omega)
                      replace hF57 := hF57.sto hS15_15 (by omega)
                      replace hI57 := hI57.sto hS15_15 (by omega)
                      replace hN58 := hN58.sto hS15_15 (by omega)
                      replace hB12 : Blk w15_15 _ _ [_, _, _] := hS15_15.blk
                      refine ⟨by omega, fun _ hx => ⟨hDd15.lo hx (by omega), trivial⟩, ?_⟩
                      have hDd15 := (Lo.refl (by omega) : Lo w44.heap.size w15_15 w15_15)
                      refine PT_q rfl rfl (fun wq hq => ev_assign rfl) ?_
                      exact PT_nil 16 ⟨hB12.num, h58, U58, q58⟩ rfl ⟨rfl, rfl, trivial⟩ rfl ⟨⟨(by (try dsimp only [Blk.num]); omega), (by (try dsimp only [Blk.num]); omega)⟩, hB12, hr58, hN58.mono (by (try dsimp only [Blk.num]); omega) (by (try dsimp only [Blk.num]); omega), hl58, hT⟩
                  · refine PA_m w44.heap.size rfl rfl (ev_alloc zr31) ?_
                    rintro _ w12 ⟨rfl, hN12⟩
                    have hz12 := hN12.size
                    replace hE := hE.trans hN12.ext
                    replace hT := hT.trans hN12.ext
                    replace hDd15 := hDd15.trans hN12.ext
                    replace hA := hA.ext hN12.ext
                    replace hB := hB.ext hN12.ext
                    replace hD := hD.ext hN12.ext
                    replace hff := hff.ext hN12.ext
                    replace hgg := hgg.ext hN12.ext
                    replace hB5 := hB5.ext hN12.ext
                    replace hB6 := hB6.ext hN12.ext
                    replace hB7 := hB7.ext hN12.ext
                    replace hF49 := hF49.ext hN12.ext
                    replace hN49 := hN49.ext hN12.ext
                    replace hF51 := hF51.ext hN12.ext
                    replace hN51 := hN51.ext hN12.ext
                    have hB12 : Blk w12 _ _ [_, _, _] := hN12.blk
                    refine ⟨by omega, fun _ hx => ⟨hDd15.lo hx (by omega), trivial⟩, ?_⟩
                    have hDd15 := (Lo.refl (by omega) : Lo w44.heap.size w12 w12)
                    refine PT_a ?_
                    refine PA_m w44.heap.size rfl rfl (ev_call rfl (toNetwork_spec _ D _ hD (by omega) (by omega))) ?_
                    rintro _ w53 ⟨h53, rfl, hF53, hE53⟩
                    have hz53 := hE53.size
                    replace hE := hE.trans hE53
                    replace hT := hT.trans hE53
                    replace hDd15 := hDd15.trans hE53
                    replace hA := hA.ext hE53
                    replace hB := hB.ext hE53
                    replace hD := hD.ext hE53
                    replace hff := hff.ext hE53
                    replace hgg := hgg.ext hE53
                    replace hB5 := hB5.ext hE53
                    replace hB6 := hB6.ext hE53
                    replace hB7 := hB7.ext hE53
                    replace hF49 := hF49.ext hE53
                    replace hN49 := hN49.ext hE53
                    replace hF51 := hF51.ext hE53
                    replace hN51 := hN51.ext hE53
                    replace hB12 := hB12.ext hE53
                    have hN53 := hF53.is
                    refine ⟨by omega, fun _ hx => ⟨hDd15.lo hx (by omega), trivial⟩, ?_⟩
                    have hDd15 := (Lo.refl (by omega) : Lo w44.heap.size w53 w53)
                    refine PT_a ?_
                    refine PA_m w44.heap.size rfl rfl (ev_call rfl (toIntS_spec _ _ ff _ hff (by omega) (by omega))) ?_
                    rintro _ w55 ⟨a55, rfl, hF55, hE55⟩
                    have hz55 := hE55.size
                    replace hE := hE.trans hE55
                    replace hT := hT.trans hE55
                    replace hDd15 := hDd15.trans hE55
                    replace hA := hA.ext hE55
                    replace hB := hB.ext hE55
                    replace hD := hD.ext hE55
                    replace hff := hff.ext hE55
                    replace hgg := hgg.ext hE55
                    replace hB5 := hB5.ext hE55
                    replace hB6 := hB6.ext hE55
                    replace hB7 := hB7.ext hE55
                    replace hF49 := hF49.ext hE55
                    replace hN49 := hN49.ext hE55
                    replace hF51 := hF51.ext hE55
                    replace hN51 := hN51.ext hE55
                    replace hB12 := hB12.ext hE55
                    replace hF53 := hF53.ext hE55
                    replace hN53 := hN53.ext hE55
                    have hI55 := hF55.is
                    refine ⟨by omega, fun _ hx => ⟨hDd15.lo hx (by omega), trivial⟩, ?_⟩
                    have hDd15 := (Lo.refl (by omega) : Lo w44.heap.size w55 w55)
                    refine PT_a ?_
                    refine PA_m w44.heap.size rfl rfl (ev_call rfl (toIntS_spec _ _ gg _ hgg (by omega) (by omega))) ?_
                    rintro _ w57 ⟨a57, rfl, hF57, hE57⟩
                    have hz57 := hE57.size
                    replace hE := hE.trans hE57
                    replace hT := hT.trans hE57
                    replace hDd15 := hDd15.trans hE57
                    replace hA := hA.ext hE57
                    replace hB := hB.ext hE57
                    replace hD := hD.ext hE57
                    replace hff := hff.ext hE57
                    replace hgg := hgg.ext hE57
                    replace hB5 := hB5.ext hE57
                    replace hB6 := hB6.ext hE57
                    replace hB7 := hB7.ext hE57
                    replace hF49 := hF49.ext hE57
                    replace hN49 := hN49.ext hE57
                    replace hF51 := hF51.ext hE57
                    replace hN51 := hN51.ext hE57
                    replace hB12 := hB12.ext hE57
                    replace hF53 := hF53.ext hE57
                    replace hN53 := hN53.ext hE57
                    replace hF55 := hF55.ext hE57
                    replace hI55 := hI55.ext hE57
                    have hI57 := hF57.is
                    refine ⟨by omega, fun _ hx => ⟨hDd15.lo hx (by omega), trivial⟩, ?_⟩
                    have hDd15 := (Lo.refl (by omega) : Lo w44.heap.size w57 w57)
                    refine PT_a ?_
                    refine PA_m w44.heap.size rfl rfl (ev_call rfl (sFibreProduct_spec _ A _ B _ D _ _ ff _ _ gg _ hN49 (by omega) (by omega) hN51 (by omega) (by omega) hN53 (by omega) (by omega) hI55 (by omega) (by omega) hI57 (by omega) (by omega))) ?_
                    rintro _ w58 ⟨h58, U58, q58, rfl, hr58, hN58, hl58, hE58⟩
                    have hz58 := hE58.size
                    replace hE := hE.trans hE58
                    replace hT := hT.trans hE58
                    replace hDd15 := hDd15.trans hE58
                    replace hA := hA.ext hE58
                    replace hB := hB.ext hE58
                    replace hD := hD.ext hE58
                    replace hff := hff.ext hE58
                    replace hgg := hgg.ext hE58
                    replace hB5 := hB5.ext hE58
                    replace hB6 := hB6.ext hE58
                    replace hB7 := hB7.ext hE58
                    replace hF49 := hF49.ext hE58
                    replace hN49 := hN49.ext hE58
                    replace hF51 := hF51.ext hE58
                    replace hN51 := hN51.ext hE58
                    replace hB12 := hB12.ext hE58
                    replace hF53 := hF53.ext hE58
                    replace hN53 := hN53.ext hE58
                    replace hF55 := hF55.ext hE58
                    replace hI55 := hI55.ext hE58
                    replace hF57 := hF57.ext hE58
                    replace hI57 := hI57.ext hE58
                    refine ⟨by omega, fun _ hx => ⟨hDd15.lo hx (by omega), trivial⟩, ?_⟩
                    have hDd15 := (Lo.refl (by omega) : Lo w44.heap.size w58 w58)
                    refine PT_q rfl rfl (fun wq hq => ev_move rfl) ?_
                    refine PT_q rfl rfl (fun wq hq => ev_extract rfl rfl) ?_
                    refine PT_q rfl rfl (fun wq hq => ev_extract rfl rfl) ?_
                    refine PT_a ?_
                    refine PA_s w44.heap.size rfl (ev_stores sz31 rfl rfl rfl (by simp [Value.oneCell']) hB12 (by simp)) ?_
                    rintro _ w15_15 hS15_15
                    have hz15_15 := hS15_15.size
                    replace hE := hE.sto hS15_15 (by omega)
                    replace hT := hT.sto hS15_15 (by omega)
                    replace hDd15 := hDd15.sto hS15_15 (by omega)
                    replace hA := hA.sto hS15_15 (by omega)
                    replace hB := hB.sto hS15_15 (by omega)
                    replace hD := hD.sto hS15_15 (by omega)
                    replace hff := hff.sto hS15_15 (by omega)
                    replace hgg := hgg.sto hS15_15 (by omega)
                    replace hB5 := hB5.sto hS15_15 (by omega)
                    replace hB6 := hB6.sto hS15_15 (by omega)
                    replace hB7 := hB7.sto hS15_15 (by omega)
                    replace hF49 := hF49.sto hS15_15 (by omega)
                    replace hN49 := hN49.sto hS15_15 (by omega)
                    replace hF51 := hF51.sto hS15_15 (by omega)
                    replace hN51 := hN51.sto hS15_15 (by omega)
                    replace hF53 := hF53.sto hS15_15 (by omega)
                    replace hN53 := hN53.sto hS15_15 (by omega)
                    replace hF55 := hF55.sto hS15_15 (by omega)
                    replace hI55 := hI55.sto hS15_15 (by omega)
                    replace hF57 := hF57.sto hS15_15 (by omega)
                    replace hI57 := hI57.sto hS15_15 (by omega)
                    replace hN58 := hN58.sto hS15_15 (by omega)
                    replace hB12 : Blk w15_15 _ _ [_, _, _] := hS15_15.blk
                    refine ⟨by omega, fun _ hx => ⟨hDd15.lo hx (by omega), trivial⟩, ?_⟩
                    have hDd15 := (Lo.refl (by omega) : Lo w44.heap.size w15_15 w15_15)
                    refine PT_q rfl rfl (fun wq hq => ev_assign rfl) ?_
                    exact PT_nil 16 ⟨hB12.num, h58, U58, q58⟩ rfl ⟨rfl, rfl, trivial⟩ rfl ⟨⟨(by (try dsimp only [Blk.num]); omega), (by (try dsimp only [Blk.num]); omega)⟩, hB12, hr58, hN58.mono (by (try dsimp only [Blk.num]); omega) (by (try dsimp only [Blk.num]); omega), hl58, hT⟩
                · refine PA_m w44.heap.size rfl rfl (ev_alloc zr31) ?_
                  rintro _ w12 ⟨rfl, hN12⟩
                  have hz12 := hN12.size
                  replace hE := hE.trans hN12.ext
                  replace hT := hT.trans hN12.ext
                  replace hDd15 := hDd15.trans hN12.ext
                  replace hA := hA.ext hN12.ext
                  replace hB := hB.ext hN12.ext
                  replace hD := hD.ext hN12.ext
                  replace hff := hff.ext hN12.ext
                  replace hgg := hgg.ext hN12.ext
                  replace hB5 := hB5.ext hN12.ext
                  replace hB6 := hB6.ext hN12.ext
                  replace hB7 := hB7.ext hN12.ext
                  replace hF49 := hF49.ext hN12.ext
                  replace hN49 := hN49.ext hN12.ext
                  have hB12 : Blk w12 _ _ [_, _, _] := hN12.blk
                  refine ⟨by omega, fun _ hx => ⟨hDd15.lo hx (by omega), trivial⟩, ?_⟩
                  have hDd15 := (Lo.refl (by omega) : Lo w44.heap.size w12 w12)
                  refine PT_a ?_
                  refine PA_m w44.heap.size rfl rfl (ev_call rfl (toNetwork_spec _ B _ hB (by omega) (by omega))) ?_
                  rintro _ w51 ⟨h51, rfl, hF51, hE51⟩
                  have hz51 := hE51.size
                  replace hE := hE.trans hE51
                  replace hT := hT.trans hE51
                  replace hDd15 := hDd15.trans hE51
                  replace hA := hA.ext hE51
                  replace hB := hB.ext hE51
                  replace hD := hD.ext hE51
                  replace hff := hff.ext hE51
                  replace hgg := hgg.ext hE51
                  replace hB5 := hB5.ext hE51
                  replace hB6 := hB6.ext hE51
                  replace hB7 := hB7.ext hE51
                  replace hF49 := hF49.ext hE51
                  replace hN49 := hN49.ext hE51
                  replace hB12 := hB12.ext hE51
                  have hN51 := hF51.is
                  refine ⟨by omega, fun _ hx => ⟨hDd15.lo hx (by omega), trivial⟩, ?_⟩
                  have hDd15 := (Lo.refl (by omega) : Lo w44.heap.size w51 w51)
                  refine PT_a ?_
                  refine PA_m w44.heap.size rfl rfl (ev_call rfl (toNetwork_spec _ D _ hD (by omega) (by omega))) ?_
                  rintro _ w53 ⟨h53, rfl, hF53, hE53⟩
                  have hz53 := hE53.size
                  replace hE := hE.trans hE53
                  replace hT := hT.trans hE53
                  replace hDd15 := hDd15.trans hE53
                  replace hA := hA.ext hE53
                  replace hB := hB.ext hE53
                  replace hD := hD.ext hE53
                  replace hff := hff.ext hE53
                  replace hgg := hgg.ext hE53
                  replace hB5 := hB5.ext hE53
                  replace hB6 := hB6.ext hE53
                  replace hB7 := hB7.ext hE53
                  replace hF49 := hF49.ext hE53
                  replace hN49 := hN49.ext hE53
                  replace hB12 := hB12.ext hE53
                  replace hF51 := hF51.ext hE53
                  replace hN51 := hN51.ext hE53
                  have hN53 := hF53.is
                  refine ⟨by omega, fun _ hx => ⟨hDd15.lo hx (by omega), trivial⟩, ?_⟩
                  have hDd15 := (Lo.refl (by omega) : Lo w44.heap.size w53 w53)
                  refine PT_a ?_
                  refine PA_m w44.heap.size rfl rfl (ev_call rfl (toIntS_spec _ _ ff _ hff (by omega) (by omega))) ?_
                  rintro _ w55 ⟨a55, rfl, hF55, hE55⟩
                  have hz55 := hE55.size
                  replace hE := hE.trans hE55
                  replace hT := hT.trans hE55
                  replace hDd15 := hDd15.trans hE55
                  replace hA := hA.ext hE55
                  replace hB := hB.ext hE55
                  replace hD := hD.ext hE55
                  replace hff := hff.ext hE55
                  replace hgg := hgg.ext hE55
                  replace hB5 := hB5.ext hE55
                  replace hB6 := hB6.ext hE55
                  replace hB7 := hB7.ext hE55
                  replace hF49 := hF49.ext hE55
                  replace hN49 := hN49.ext hE55
                  replace hB12 := hB12.ext hE55
                  replace hF51 := hF51.ext hE55
                  replace hN51 := hN51.ext hE55
                  replace hF53 := hF53.ext hE55
                  replace hN53 := hN53.ext hE55
                  have hI55 := hF55.is
                  refine ⟨by omega, fun _ hx => ⟨hDd15.lo hx (by omega), trivial⟩, ?_⟩
                  have hDd15 := (Lo.refl (by omega) : Lo w44.heap.size w55 w55)
                  refine PT_a ?_
                  refine PA_m w44.heap.size rfl rfl (ev_call rfl (toIntS_spec _ _ gg _ hgg (by omega) (by omega))) ?_
                  rintro _ w57 ⟨a57, rfl, hF57, hE57⟩
                  have hz57 := hE57.size
                  replace hE := hE.trans hE57
                  replace hT := hT.trans hE57
                  replace hDd15 := hDd15.trans hE57
                  replace hA := hA.ext hE57
                  replace hB := hB.ext hE57
                  replace hD := hD.ext hE57
                  replace hff := hff.ext hE57
                  replace hgg := hgg.ext hE57
                  replace hB5 := hB5.ext hE57
                  replace hB6 := hB6.ext hE57
                  replace hB7 := hB7.ext hE57
                  replace hF49 := hF49.ext hE57
                  replace hN49 := hN49.ext hE57
                  replace hB12 := hB12.ext hE57
                  replace hF51 := hF51.ext hE57
                  replace hN51 := hN51.ext hE57
                  replace hF53 := hF53.ext hE57
                  replace hN53 := hN53.ext hE57
                  replace hF55 := hF55.ext hE57
                  replace hI55 := hI55.ext hE57
                  have hI57 := hF57.is
                  refine ⟨by omega, fun _ hx => ⟨hDd15.lo hx (by omega), trivial⟩, ?_⟩
                  have hDd15 := (Lo.refl (by omega) : Lo w44.heap.size w57 w57)
                  refine PT_a ?_
                  refine PA_m w44.heap.size rfl rfl (ev_call rfl (sFibreProduct_spec _ A _ B _ D _ _ ff _ _ gg _ hN49 (by omega) (by omega) hN51 (by omega) (by omega) hN53 (by omega) (by omega) hI55 (by omega) (by omega) hI57 (by omega) (by omega))) ?_
                  rintro _ w58 ⟨h58, U58, q58, rfl, hr58, hN58, hl58, hE58⟩
                  have hz58 := hE58.size
                  replace hE := hE.trans hE58
                  replace hT := hT.trans hE58
                  replace hDd15 := hDd15.trans hE58
                  replace hA := hA.ext hE58
                  replace hB := hB.ext hE58
                  replace hD := hD.ext hE58
                  replace hff := hff.ext hE58
                  replace hgg := hgg.ext hE58
                  replace hB5 := hB5.ext hE58
                  replace hB6 := hB6.ext hE58
                  replace hB7 := hB7.ext hE58
                  replace hF49 := hF49.ext hE58
                  replace hN49 := hN49.ext hE58
                  replace hB12 := hB12.ext hE58
                  replace hF51 := hF51.ext hE58
                  replace hN51 := hN51.ext hE58
                  replace hF53 := hF53.ext hE58
                  replace hN53 := hN53.ext hE58
                  replace hF55 := hF55.ext hE58
                  replace hI55 := hI55.ext hE58
                  replace hF57 := hF57.ext hE58
                  replace hI57 := hI57.ext hE58
                  refine ⟨by omega, fun _ hx => ⟨hDd15.lo hx (by omega), trivial⟩, ?_⟩
                  have hDd15 := (Lo.refl (by omega) : Lo w44.heap.size w58 w58)
                  refine PT_q rfl rfl (fun wq hq => ev_move rfl) ?_
                  refine PT_q rfl rfl (fun wq hq => ev_extract rfl rfl) ?_
                  refine PT_q rfl rfl (fun wq hq => ev_extract rfl rfl) ?_
                  refine PT_a ?_
                  refine PA_s w44.heap.size rfl (ev_stores sz31 rfl rfl rfl (by simp [Value.oneCell']) hB12 (by simp)) ?_
                  rintro _ w15_15 hS15_15
                  have hz15_15 := hS15_15.size
                  replace hE := hE.sto hS15_15 (by omega)
                  replace hT := hT.sto hS15_15 (by omega)
                  replace hDd15 := hDd15.sto hS15_15 (by omega)
                  replace hA := hA.sto hS15_15 (by omega)
                  replace hB := hB.sto hS15_15 (by omega)
                  replace hD := hD.sto hS15_15 (by omega)
                  replace hff := hff.sto hS15_15 (by omega)
                  replace hgg := hgg.sto hS15_15 (by omega)
                  replace hB5 := hB5.sto hS15_15 (by omega)
                  replace hB6 := hB6.sto hS15_15 (by omega)
                  replace hB7 := hB7.sto hS15_15 (by omega)
                  replace hF49 := hF49.sto hS15_15 (by omega)
                  replace hN49 := hN49.sto hS15_15 (by omega)
                  replace hF51 := hF51.sto hS15_15 (by omega)
                  replace hN51 := hN51.sto hS15_15 (by omega)
                  replace hF53 := hF53.sto hS15_15 (by omega)
                  replace hN53 := hN53.sto hS15_15 (by omega)
                  replace hF55 := hF55.sto hS15_15 (by omega)
                  replace hI55 := hI55.sto hS15_15 (by omega)
                  replace hF57 := hF57.sto hS15_15 (by omega)
                  replace hI57 := hI57.sto hS15_15 (by omega)
                  replace hN58 := hN58.sto hS15_15 (by omega)
                  replace hB12 : Blk w15_15 _ _ [_, _, _] := hS15_15.blk
                  refine ⟨by omega, fun _ hx => ⟨hDd15.lo hx (by omega), trivial⟩, ?_⟩
                  have hDd15 := (Lo.refl (by omega) : Lo w44.heap.size w15_15 w15_15)
                  refine PT_q rfl rfl (fun wq hq => ev_assign rfl) ?_
                  exact PT_nil 16 ⟨hB12.num, h58, U58, q58⟩ rfl ⟨rfl, rfl, trivial⟩ rfl ⟨⟨(by (try dsimp only [Blk.num]); omega), (by (try dsimp only [Blk.num]); omega)⟩, hB12, hr58, hN58.mono (by (try dsimp only [Blk.num]); omega) (by (try dsimp only [Blk.num]); omega), hl58, hT⟩
              · refine PA_m w44.heap.size rfl rfl (ev_alloc zr31) ?_
                rintro _ w12 ⟨rfl, hN12⟩
                have hz12 := hN12.size
                replace hE := hE.trans hN12.ext
                replace hT := hT.trans hN12.ext
                replace hDd15 := hDd15.trans hN12.ext
                replace hA := hA.ext hN12.ext
                replace hB := hB.ext hN12.ext
                replace hD := hD.ext hN12.ext
                replace hff := hff.ext hN12.ext
                replace hgg := hgg.ext hN12.ext
                replace hB5 := hB5.ext hN12.ext
                replace hB6 := hB6.ext hN12.ext
                replace hB7 := hB7.ext hN12.ext
                have hB12 : Blk w12 _ _ [_, _, _] := hN12.blk
                refine ⟨by omega, fun _ hx => ⟨hDd15.lo hx (by omega), trivial⟩, ?_⟩
                have hDd15 := (Lo.refl (by omega) : Lo w44.heap.size w12 w12)
                refine PT_a ?_
                refine PA_m w44.heap.size rfl rfl (ev_call rfl (toNetwork_spec _ A _ hA (by omega) (by omega))) ?_
                rintro _ w49 ⟨h49, rfl, hF49, hE49⟩
                have hz49 := hE49.size
                replace hE := hE.trans hE49
                replace hT := hT.trans hE49
                replace hDd15 := hDd15.trans hE49
                replace hA := hA.ext hE49
                replace hB := hB.ext hE49
                replace hD := hD.ext hE49
                replace hff := hff.ext hE49
                replace hgg := hgg.ext hE49
                replace hB5 := hB5.ext hE49
                replace hB6 := hB6.ext hE49
                replace hB7 := hB7.ext hE49
                replace hB12 := hB12.ext hE49
                have hN49 := hF49.is
                refine ⟨by omega, fun _ hx => ⟨hDd15.lo hx (by omega), trivial⟩, ?_⟩
                have hDd15 := (Lo.refl (by omega) : Lo w44.heap.size w49 w49)
                refine PT_a ?_
                refine PA_m w44.heap.size rfl rfl (ev_call rfl (toNetwork_spec _ B _ hB (by omega) (by omega))) ?_
                rintro _ w51 ⟨h51, rfl, hF51, hE51⟩
                have hz51 := hE51.size
                replace hE := hE.trans hE51
                replace hT := hT.trans hE51
                replace hDd15 := hDd15.trans hE51
                replace hA := hA.ext hE51
                replace hB := hB.ext hE51
                replace hD := hD.ext hE51
                replace hff := hff.ext hE51
                replace hgg := hgg.ext hE51
                replace hB5 := hB5.ext hE51
                replace hB6 := hB6.ext hE51
                replace hB7 := hB7.ext hE51
                replace hB12 := hB12.ext hE51
                replace hF49 := hF49.ext hE51
                replace hN49 := hN49.ext hE51
                have hN51 := hF51.is
                refine ⟨by omega, fun _ hx => ⟨hDd15.lo hx (by omega), trivial⟩, ?_⟩
                have hDd15 := (Lo.refl (by omega) : Lo w44.heap.size w51 w51)
                refine PT_a ?_
                refine PA_m w44.heap.size rfl rfl (ev_call rfl (toNetwork_spec _ D _ hD (by omega) (by omega))) ?_
                rintro _ w53 ⟨h53, rfl, hF53, hE53⟩
                have hz53 := hE53.size
                replace hE := hE.trans hE53
                replace hT := hT.trans hE53
                replace hDd15 := hDd15.trans hE53
                replace hA := hA.ext hE53
                replace hB := hB.ext hE53
                replace hD := hD.ext hE53
                replace hff := hff.ext hE53
                replace hgg := hgg.ext hE53
                replace hB5 := hB5.ext hE53
                replace hB6 := hB6.ext hE53
                replace hB7 := hB7.ext hE53
                replace hB12 := hB12.ext hE53
                replace hF49 := hF49.ext hE53
                replace hN49 := hN49.ext hE53
                replace hF51 := hF51.ext hE53
                replace hN51 := hN51.ext hE53
                have hN53 := hF53.is
                refine ⟨by omega, fun _ hx => ⟨hDd15.lo hx (by omega), trivial⟩, ?_⟩
                have hDd15 := (Lo.refl (by omega) : Lo w44.heap.size w53 w53)
                refine PT_a ?_
                refine PA_m w44.heap.size rfl rfl (ev_call rfl (toIntS_spec _ _ ff _ hff (by omega) (by omega))) ?_
                rintro _ w55 ⟨a55, rfl, hF55, hE55⟩
                have hz55 := hE55.size
                replace hE := hE.trans hE55
                replace hT := hT.trans hE55
                replace hDd15 := hDd15.trans hE55
                replace hA := hA.ext hE55
                replace hB := hB.ext hE55
                replace hD := hD.ext hE55
                replace hff := hff.ext hE55
                replace hgg := hgg.ext hE55
                replace hB5 := hB5.ext hE55
                replace hB6 := hB6.ext hE55
                replace hB7 := hB7.ext hE55
                replace hB12 := hB12.ext hE55
                replace hF49 := hF49.ext hE55
                replace hN49 := hN49.ext hE55
                replace hF51 := hF51.ext hE55
                replace hN51 := hN51.ext hE55
                replace hF53 := hF53.ext hE55
                replace hN53 := hN53.ext hE55
                have hI55 := hF55.is
                refine ⟨by omega, fun _ hx => ⟨hDd15.lo hx (by omega), trivial⟩, ?_⟩
                have hDd15 := (Lo.refl (by omega) : Lo w44.heap.size w55 w55)
                refine PT_a ?_
                refine PA_m w44.heap.size rfl rfl (ev_call rfl (toIntS_spec _ _ gg _ hgg (by omega) (by omega))) ?_
                rintro _ w57 ⟨a57, rfl, hF57, hE57⟩
                have hz57 := hE57.size
                replace hE := hE.trans hE57
                replace hT := hT.trans hE57
                replace hDd15 := hDd15.trans hE57
                replace hA := hA.ext hE57
                replace hB := hB.ext hE57
                replace hD := hD.ext hE57
                replace hff := hff.ext hE57
                replace hgg := hgg.ext hE57
                replace hB5 := hB5.ext hE57
                replace hB6 := hB6.ext hE57
                replace hB7 := hB7.ext hE57
                replace hB12 := hB12.ext hE57
                replace hF49 := hF49.ext hE57
                replace hN49 := hN49.ext hE57
                replace hF51 := hF51.ext hE57
                replace hN51 := hN51.ext hE57
                replace hF53 := hF53.ext hE57
                replace hN53 := hN53.ext hE57
                replace hF55 := hF55.ext hE57
                replace hI55 := hI55.ext hE57
                have hI57 := hF57.is
                refine ⟨by omega, fun _ hx => ⟨hDd15.lo hx (by omega), trivial⟩, ?_⟩
                have hDd15 := (Lo.refl (by omega) : Lo w44.heap.size w57 w57)
                refine PT_a ?_
                refine PA_m w44.heap.size rfl rfl (ev_call rfl (sFibreProduct_spec _ A _ B _ D _ _ ff _ _ gg _ hN49 (by omega) (by omega) hN51 (by omega) (by omega) hN53 (by omega) (by omega) hI55 (by omega) (by omega) hI57 (by omega) (by omega))) ?_
                rintro _ w58 ⟨h58, U58, q58, rfl, hr58, hN58, hl58, hE58⟩
                have hz58 := hE58.size
                replace hE := hE.trans hE58
                replace hT := hT.trans hE58
                replace hDd15 := hDd15.trans hE58
                replace hA := hA.ext hE58
                replace hB := hB.ext hE58
                replace hD := hD.ext hE58
                replace hff := hff.ext hE58
                replace hgg := hgg.ext hE58
                replace hB5 := hB5.ext hE58
                replace hB6 := hB6.ext hE58
                replace hB7 := hB7.ext hE58
                replace hB12 := hB12.ext hE58
                replace hF49 := hF49.ext hE58
                replace hN49 := hN49.ext hE58
                replace hF51 := hF51.ext hE58
                replace hN51 := hN51.ext hE58
                replace hF53 := hF53.ext hE58
                replace hN53 := hN53.ext hE58
                replace hF55 := hF55.ext hE58
                replace hI55 := hI55.ext hE58
                replace hF57 := hF57.ext hE58
                replace hI57 := hI57.ext hE58
                refine ⟨by omega, fun _ hx => ⟨hDd15.lo hx (by omega), trivial⟩, ?_⟩
                have hDd15 := (Lo.refl (by omega) : Lo w44.heap.size w58 w58)
                refine PT_q rfl rfl (fun wq hq => ev_move rfl) ?_
                refine PT_q rfl rfl (fun wq hq => ev_extract rfl rfl) ?_
                refine PT_q rfl rfl (fun wq hq => ev_extract rfl rfl) ?_
                refine PT_a ?_
                refine PA_s w44.heap.size rfl (ev_stores sz31 rfl rfl rfl (by simp [Value.oneCell']) hB12 (by simp)) ?_
                rintro _ w15_15 hS15_15
                have hz15_15 := hS15_15.size
                replace hE := hE.sto hS15_15 (by omega)
                replace hT := hT.sto hS15_15 (by omega)
                replace hDd15 := hDd15.sto hS15_15 (by omega)
                replace hA := hA.sto hS15_15 (by omega)
                replace hB := hB.sto hS15_15 (by omega)
                replace hD := hD.sto hS15_15 (by omega)
                replace hff := hff.sto hS15_15 (by omega)
                replace hgg := hgg.sto hS15_15 (by omega)
                replace hB5 := hB5.sto hS15_15 (by omega)
                replace hB6 := hB6.sto hS15_15 (by omega)
                replace hB7 := hB7.sto hS15_15 (by omega)
                replace hF49 := hF49.sto hS15_15 (by omega)
                replace hN49 := hN49.sto hS15_15 (by omega)
                replace hF51 := hF51.sto hS15_15 (by omega)
                replace hN51 := hN51.sto hS15_15 (by omega)
                replace hF53 := hF53.sto hS15_15 (by omega)
                replace hN53 := hN53.sto hS15_15 (by omega)
                replace hF55 := hF55.sto hS15_15 (by omega)
                replace hI55 := hI55.sto hS15_15 (by omega)
                replace hF57 := hF57.sto hS15_15 (by omega)
                replace hI57 := hI57.sto hS15_15 (by omega)
                replace hN58 := hN58.sto hS15_15 (by omega)
                replace hB12 : Blk w15_15 _ _ [_, _, _] := hS15_15.blk
                refine ⟨by omega, fun _ hx => ⟨hDd15.lo hx (by omega), trivial⟩, ?_⟩
                have hDd15 := (Lo.refl (by omega) : Lo w44.heap.size w15_15 w15_15)
                refine PT_q rfl rfl (fun wq hq => ev_assign rfl) ?_
                exact PT_nil 16 ⟨hB12.num, h58, U58, q58⟩ rfl ⟨rfl, rfl, trivial⟩ rfl ⟨⟨(by (try dsimp only [Blk.num]); omega), (by (try dsimp only [Blk.num]); omega)⟩, hB12, hr58, hN58.mono (by (try dsimp only [Blk.num]); omega) (by (try dsimp only [Blk.num]); omega), hl58, hT⟩
            rintro ⟨b12, h58, U58, q58⟩ wt15 ⟨⟨hb58_1, hb58_2⟩, hB12, hr58, hN58, hl58, hT58⟩
            dsimp only [List.cons_append, List.nil_append]
            dsimp only at hb58_1 hb58_2 hB12 hr58 hN58 hl58
            replace hE := hE.trans hT58
            replace hA := hA.ext hT58
            replace hB := hB.ext hT58
            replace hD := hD.ext hT58
            replace hff := hff.ext hT58
            replace hgg := hgg.ext hT58
            replace hB5 := hB5.ext hT58
            replace hB6 := hB6.ext hT58
            replace hB7 := hB7.ext hT58
            refine thenE_n ?_
            refine W_seq ?_
            refine W_region ?_
            refine WL_q rfl (ev_loads st25 sz25 rfl (cellsB hB5) rfl) ?_
            refine WL_m rfl (ev_call rfl (toNetwork_spec _ A _ hA (by omega) (by omega))) ?_
            rintro _ w62 ⟨h62, rfl, hF62, hE62⟩
            have hz62 := hE62.size
            replace hE := hE.trans hE62
            replace hA := hA.ext hE62
            replace hB := hB.ext hE62
            replace hD := hD.ext hE62
            replace hff := hff.ext hE62
            replace hgg := hgg.ext hE62
            replace hB5 := hB5.ext hE62
            replace hB6 := hB6.ext hE62
            replace hB7 := hB7.ext hE62
            replace hB12 := hB12.ext hE62
            replace hN58 := hN58.ext hE62
            have hN62 := hF62.is
            refine WL_m rfl (ev_alloc zr31) ?_
            rintro _ w14 ⟨rfl, hN14⟩
            have hz14 := hN14.size
            replace hE := hE.trans hN14.ext
            replace hA := hA.ext hN14.ext
            replace hB := hB.ext hN14.ext
            replace hD := hD.ext hN14.ext
            replace hff := hff.ext hN14.ext
            replace hgg := hgg.ext hN14.ext
            replace hB5 := hB5.ext hN14.ext
            replace hB6 := hB6.ext hN14.ext
            replace hB7 := hB7.ext hN14.ext
            replace hB12 := hB12.ext hN14.ext
            replace hN58 := hN58.ext hN14.ext
            replace hF62 := hF62.ext hN14.ext
            replace hN62 := hN62.ext hN14.ext
            have hB14 : Blk w14 _ _ [_, _, _] := hN14.blk
            refine WL_s (ev_stores sz31 rfl rfl rfl (by simp [Value.oneCell']) hB14 (by simp)) ?_
            rintro _ w16_3 hS16_3
            have hz16_3 := hS16_3.size
            replace hE := hE.sto hS16_3 (by omega)
            replace hA := hA.sto hS16_3 (by omega)
            replace hB := hB.sto hS16_3 (by omega)
            replace hD := hD.sto hS16_3 (by omega)
            replace hff := hff.sto hS16_3 (by omega)
            replace hgg := hgg.sto hS16_3 (by omega)
            replace hB5 := hB5.sto hS16_3 (by omega)
            replace hB6 := hB6.sto hS16_3 (by omega)
            replace hB7 := hB7.sto hS16_3 (by omega)
            replace hB12 := hB12.sto hS16_3 (by omega)
            replace hN58 := hN58.sto hS16_3 (by omega)
            replace hF62 := hF62.sto hS16_3 (by omega)
            replace hN62 := hN62.sto hS16_3 (by omega)
            replace hB14 : Blk w16_3 _ _ [_, _, _] := hS16_3.blk
            refine WL_nil ?_
            refine thenE_n ?_
            refine W_seq ?_
            refine W_region ?_
            refine WL_q rfl (ev_loads st25 sz25 rfl (cellsB hB6) rfl) ?_
            refine WL_m rfl (ev_call rfl (toNetwork_spec _ B _ hB (by omega) (by omega))) ?_
            rintro _ w64 ⟨h64, rfl, hF64, hE64⟩
            have hz64 := hE64.size
            replace hE := hE.trans hE64
            replace hA := hA.ext hE64
            replace hB := hB.ext hE64
            replace hD := hD.ext hE64
            replace hff := hff.ext hE64
            replace hgg := hgg.ext hE64
            replace hB5 := hB5.ext hE64
            replace hB6 := hB6.ext hE64
            replace hB7 := hB7.ext hE64
            replace hB12 := hB12.ext hE64
            replace hN58 := hN58.ext hE64
            replace hF62 := hF62.ext hE64
            replace hN62 := hN62.ext hE64
            replace hB14 := hB14.ext hE64
            have hN64 := hF64.is
            refine WL_m rfl (ev_alloc zr31) ?_
            rintro _ w15 ⟨rfl, hN15⟩
            have hz15 := hN15.size
            replace hE := hE.trans hN15.ext
            replace hA := hA.ext hN15.ext
            replace hB := hB.ext hN15.ext
            replace hD := hD.ext hN15.ext
            replace hff := hff.ext hN15.ext
            replace hgg := hgg.ext hN15.ext
            replace hB5 := hB5.ext hN15.ext
            replace hB6 := hB6.ext hN15.ext
            replace hB7 := hB7.ext hN15.ext
            replace hB12 := hB12.ext hN15.ext
            replace hN58 := hN58.ext hN15.ext
            replace hF62 := hF62.ext hN15.ext
            replace hN62 := hN62.ext hN15.ext
            replace hB14 := hB14.ext hN15.ext
            replace hF64 := hF64.ext hN15.ext
            replace hN64 := hN64.ext hN15.ext
            have hB15 : Blk w15 _ _ [_, _, _] := hN15.blk
            refine WL_s (ev_stores sz31 rfl rfl rfl (by simp [Value.oneCell']) hB15 (by simp)) ?_
            rintro _ w17_3 hS17_3
            have hz17_3 := hS17_3.size
            replace hE := hE.sto hS17_3 (by omega)
            replace hA := hA.sto hS17_3 (by omega)
            replace hB := hB.sto hS17_3 (by omega)
            replace hD := hD.sto hS17_3 (by omega)
            replace hff := hff.sto hS17_3 (by omega)
            replace hgg := hgg.sto hS17_3 (by omega)
            replace hB5 := hB5.sto hS17_3 (by omega)
            replace hB6 := hB6.sto hS17_3 (by omega)
            replace hB7 := hB7.sto hS17_3 (by omega)
            replace hB12 := hB12.sto hS17_3 (by omega)
            replace hN58 := hN58.sto hS17_3 (by omega)
            replace hF62 := hF62.sto hS17_3 (by omega)
            replace hN62 := hN62.sto hS17_3 (by omega)
            replace hB14 := hB14.sto hS17_3 (by omega)
            replace hF64 := hF64.sto hS17_3 (by omega)
            replace hN64 := hN64.sto hS17_3 (by omega)
            replace hB15 : Blk w17_3 _ _ [_, _, _] := hS17_3.blk
            refine WL_nil ?_
            refine thenE_n ?_
            refine W_seq ?_
            refine W_region ?_
            refine WL_q rfl (ev_loads st25 sz25 rfl (cellsB hB7) rfl) ?_
            refine WL_m rfl (ev_call rfl (toNetwork_spec _ D _ hD (by omega) (by omega))) ?_
            rintro _ w66 ⟨h66, rfl, hF66, hE66⟩
            have hz66 := hE66.size
            replace hE := hE.trans hE66
            replace hA := hA.ext hE66
            replace hB := hB.ext hE66
            replace hD := hD.ext hE66
            replace hff := hff.ext hE66
            replace hgg := hgg.ext hE66
            replace hB5 := hB5.ext hE66
            replace hB6 := hB6.ext hE66
            replace hB7 := hB7.ext hE66
            replace hB12 := hB12.ext hE66
            replace hN58 := hN58.ext hE66
            replace hF62 := hF62.ext hE66
            replace hN62 := hN62.ext hE66
            replace hB14 := hB14.ext hE66
            replace hF64 := hF64.ext hE66
            replace hN64 := hN64.ext hE66
            replace hB15 := hB15.ext hE66
            have hN66 := hF66.is
            refine WL_m rfl (ev_alloc zr31) ?_
            rintro _ w16 ⟨rfl, hN16⟩
            have hz16 := hN16.size
            replace hE := hE.trans hN16.ext
            replace hA := hA.ext hN16.ext
            replace hB := hB.ext hN16.ext
            replace hD := hD.ext hN16.ext
            replace hff := hff.ext hN16.ext
            replace hgg := hgg.ext hN16.ext
            replace hB5 := hB5.ext hN16.ext
            replace hB6 := hB6.ext hN16.ext
            replace hB7 := hB7.ext hN16.ext
            replace hB12 := hB12.ext hN16.ext
            replace hN58 := hN58.ext hN16.ext
            replace hF62 := hF62.ext hN16.ext
            replace hN62 := hN62.ext hN16.ext
            replace hB14 := hB14.ext hN16.ext
            replace hF64 := hF64.ext hN16.ext
            replace hN64 := hN64.ext hN16.ext
            replace hB15 := hB15.ext hN16.ext
            replace hF66 := hF66.ext hN16.ext
            replace hN66 := hN66.ext hN16.ext
            have hB16 : Blk w16 _ _ [_, _, _] := hN16.blk
            refine WL_s (ev_stores sz31 rfl rfl rfl (by simp [Value.oneCell']) hB16 (by simp)) ?_
            rintro _ w18_3 hS18_3
            have hz18_3 := hS18_3.size
            replace hE := hE.sto hS18_3 (by omega)
            replace hA := hA.sto hS18_3 (by omega)
            replace hB := hB.sto hS18_3 (by omega)
            replace hD := hD.sto hS18_3 (by omega)
            replace hff := hff.sto hS18_3 (by omega)
            replace hgg := hgg.sto hS18_3 (by omega)
            replace hB5 := hB5.sto hS18_3 (by omega)
            replace hB6 := hB6.sto hS18_3 (by omega)
            replace hB7 := hB7.sto hS18_3 (by omega)
            replace hB12 := hB12.sto hS18_3 (by omega)
            replace hN58 := hN58.sto hS18_3 (by omega)
            replace hF62 := hF62.sto hS18_3 (by omega)
            replace hN62 := hN62.sto hS18_3 (by omega)
            replace hB14 := hB14.sto hS18_3 (by omega)
            replace hF64 := hF64.sto hS18_3 (by omega)
            replace hN64 := hN64.sto hS18_3 (by omega)
            replace hB15 := hB15.sto hS18_3 (by omega)
            replace hF66 := hF66.sto hS18_3 (by omega)
            replace hN66 := hN66.sto hS18_3 (by omega)
            replace hB16 : Blk w18_3 _ _ [_, _, _] := hS18_3.blk
            refine WL_nil ?_
            refine thenE_n ?_
            refine W_seq ?_
            refine W_region ?_
            refine WL_q rfl (ev_move rfl) ?_
            refine WL_m rfl (ev_call rfl (toIntS_spec _ _ ff _ hff (by omega) (by omega))) ?_
            rintro _ w68 ⟨a68, rfl, hF68, hE68⟩
            have hz68 := hE68.size
            replace hE := hE.trans hE68
            replace hA := hA.ext hE68
            replace hB := hB.ext hE68
            replace hD := hD.ext hE68
            replace hff := hff.ext hE68
            replace hgg := hgg.ext hE68
            replace hB5 := hB5.ext hE68
            replace hB6 := hB6.ext hE68
            replace hB7 := hB7.ext hE68
            replace hB12 := hB12.ext hE68
            replace hN58 := hN58.ext hE68
            replace hF62 := hF62.ext hE68
            replace hN62 := hN62.ext hE68
            replace hB14 := hB14.ext hE68
            replace hF64 := hF64.ext hE68
            replace hN64 := hN64.ext hE68
            replace hB15 := hB15.ext hE68
            replace hF66 := hF66.ext hE68
            replace hN66 := hN66.ext hE68
            replace hB16 := hB16.ext hE68
            have hI68 := hF68.is
            refine WL_q rfl (ev_assign rfl) ?_
            refine WL_nil ?_
            refine thenE_n ?_
            refine W_seq ?_
            refine W_region ?_
            refine WL_q rfl (ev_move rfl) ?_
            refine WL_m rfl (ev_call rfl (toIntS_spec _ _ gg _ hgg (by omega) (by omega))) ?_
            rintro _ w70 ⟨a70, rfl, hF70, hE70⟩
            have hz70 := hE70.size
            replace hE := hE.trans hE70
            replace hA := hA.ext hE70
            replace hB := hB.ext hE70
            replace hD := hD.ext hE70
            replace hff := hff.ext hE70
            replace hgg := hgg.ext hE70
            replace hB5 := hB5.ext hE70
            replace hB6 := hB6.ext hE70
            replace hB7 := hB7.ext hE70
            replace hB12 := hB12.ext hE70
            replace hN58 := hN58.ext hE70
            replace hF62 := hF62.ext hE70
            replace hN62 := hN62.ext hE70
            replace hB14 := hB14.ext hE70
            replace hF64 := hF64.ext hE70
            replace hN64 := hN64.ext hE70
            replace hB15 := hB15.ext hE70
            replace hF66 := hF66.ext hE70
            replace hN66 := hN66.ext hE70
            replace hB16 := hB16.ext hE70
            replace hF68 := hF68.ext hE70
            replace hI68 := hI68.ext hE70
            have hI70 := hF70.is
            refine WL_q rfl (ev_assign rfl) ?_
            refine WL_nil ?_
            refine thenE_n ?_
            refine W_seq ?_
            refine W_region ?_
            refine WL_q rfl (ev_loads st31 sz31 rfl (cellsB hB14) rfl) ?_
            refine WL_q rfl (ev_loads st31 sz31 rfl (cellsB hB15) rfl) ?_
            refine WL_q rfl (ev_loads st31 sz31 rfl (cellsB hB16) rfl) ?_
            refine WL_q rfl (ev_move rfl) ?_
            refine WL_q rfl (ev_move rfl) ?_
            refine WL_m rfl (ev_call rfl (FibreProduct_spec _ A _ B _ D _ _ ff _ _ gg _ hN62 (by omega) (by omega) hN64 (by omega) (by omega) hN66 (by omega) (by omega) hI68 (by omega) (by omega) hI70 (by omega) (by omega))) ?_
            rintro _ w77 ⟨h77, U77, q77, rfl, hr77, hO77, hl77, hE77⟩
            have hz77 := hE77.size
            replace hE := hE.trans hE77
            replace hA := hA.ext hE77
            replace hB := hB.ext hE77
            replace hD := hD.ext hE77
            replace hff := hff.ext hE77
            replace hgg := hgg.ext hE77
            replace hB5 := hB5.ext hE77
            replace hB6 := hB6.ext hE77
            replace hB7 := hB7.ext hE77
            replace hB12 := hB12.ext hE77
            replace hN58 := hN58.ext hE77
            replace hF62 := hF62.ext hE77
            replace hN62 := hN62.ext hE77
            replace hB14 := hB14.ext hE77
            replace hF64 := hF64.ext hE77
            replace hN64 := hN64.ext hE77
            replace hB15 := hB15.ext hE77
            replace hF66 := hF66.ext hE77
            replace hN66 := hN66.ext hE77
            replace hB16 := hB16.ext hE77
            replace hF68 := hF68.ext hE77
            replace hI68 := hI68.ext hE77
            replace hF70 := hF70.ext hE77
            replace hI70 := hI70.ext hE77
            refine WL_q rfl (ev_move rfl) ?_
            refine WL_q rfl (ev_extract rfl rfl) ?_
            refine WL_q rfl (ev_extract rfl rfl) ?_
            refine WL_m rfl (ev_alloc zr31) ?_
            rintro _ w19 ⟨rfl, hN19⟩
            have hz19 := hN19.size
            replace hE := hE.trans hN19.ext
            replace hA := hA.ext hN19.ext
            replace hB := hB.ext hN19.ext
            replace hD := hD.ext hN19.ext
            replace hff := hff.ext hN19.ext
            replace hgg := hgg.ext hN19.ext
            replace hB5 := hB5.ext hN19.ext
            replace hB6 := hB6.ext hN19.ext
            replace hB7 := hB7.ext hN19.ext
            replace hB12 := hB12.ext hN19.ext
            replace hN58 := hN58.ext hN19.ext
            replace hF62 := hF62.ext hN19.ext
            replace hN62 := hN62.ext hN19.ext
            replace hB14 := hB14.ext hN19.ext
            replace hF64 := hF64.ext hN19.ext
            replace hN64 := hN64.ext hN19.ext
            replace hB15 := hB15.ext hN19.ext
            replace hF66 := hF66.ext hN19.ext
            replace hN66 := hN66.ext hN19.ext
            replace hB16 := hB16.ext hN19.ext
            replace hF68 := hF68.ext hN19.ext
            replace hI68 := hI68.ext hN19.ext
            replace hF70 := hF70.ext hN19.ext
            replace hI70 := hI70.ext hN19.ext
            replace hO77 := hO77.ext hN19.ext
            have hB19 : Blk w19 _ _ [_, _, _] := hN19.blk
            refine WL_s (ev_stores sz31 rfl rfl rfl (by simp [Value.oneCell']) hB19 (by simp)) ?_
            rintro _ w21_10 hS21_10
            have hz21_10 := hS21_10.size
            replace hE := hE.sto hS21_10 (by omega)
            replace hA := hA.sto hS21_10 (by omega)
            replace hB := hB.sto hS21_10 (by omega)
            replace hD := hD.sto hS21_10 (by omega)
            replace hff := hff.sto hS21_10 (by omega)
            replace hgg := hgg.sto hS21_10 (by omega)
            replace hB5 := hB5.sto hS21_10 (by omega)
            replace hB6 := hB6.sto hS21_10 (by omega)
            replace hB7 := hB7.sto hS21_10 (by omega)
            replace hB12 := hB12.sto hS21_10 (by omega)
            replace hN58 := hN58.sto hS21_10 (by omega)
            replace hF62 := hF62.sto hS21_10 (by omega)
            replace hN62 := hN62.sto hS21_10 (by omega)
            replace hB14 := hB14.sto hS21_10 (by omega)
            replace hF64 := hF64.sto hS21_10 (by omega)
            replace hN64 := hN64.sto hS21_10 (by omega)
            replace hB15 := hB15.sto hS21_10 (by omega)
            replace hF66 := hF66.sto hS21_10 (by omega)
            replace hN66 := hN66.sto hS21_10 (by omega)
            replace hB16 := hB16.sto hS21_10 (by omega)
            replace hF68 := hF68.sto hS21_10 (by omega)
            replace hI68 := hI68.sto hS21_10 (by omega)
            replace hF70 := hF70.sto hS21_10 (by omega)
            replace hI70 := hI70.sto hS21_10 (by omega)
            replace hO77 := hO77.sto hS21_10 (by omega)
            replace hB19 : Blk w21_10 _ _ [_, _, _] := hS21_10.blk
            refine WL_q rfl (ev_assign rfl) ?_
            refine WL_nil ?_
            refine thenE_n ?_
            refine W_seq ?_
            refine W_seq ?_
            refine W_region ?_
            refine WL_q rfl (ev_loads st31 sz31 rfl (cellsB hB19) rfl) ?_
            refine WL_q rfl (ev_loads st31 sz31 rfl (cellsB hB12) rfl) ?_
            have eU82 := hr58.det1 hr77
            subst eU82
            refine WL_m rfl (ev_call rfl (eqNetwork_spec _ _ U58 _ hO77.is hN58 (by omega))) ?_
            rintro _ w82 ⟨rfl, hE82⟩
            have hz82 := hE82.size
            replace hE := hE.trans hE82
            replace hA := hA.ext hE82
            replace hB := hB.ext hE82
            replace hD := hD.ext hE82
            replace hff := hff.ext hE82
            replace hgg := hgg.ext hE82
            replace hB5 := hB5.ext hE82
            replace hB6 := hB6.ext hE82
            replace hB7 := hB7.ext hE82
            replace hB12 := hB12.ext hE82
            replace hN58 := hN58.ext hE82
            replace hF62 := hF62.ext hE82
            replace hN62 := hN62.ext hE82
            replace hB14 := hB14.ext hE82
            replace hF64 := hF64.ext hE82
            replace hN64 := hN64.ext hE82
            replace hB15 := hB15.ext hE82
            replace hF66 := hF66.ext hE82
            replace hN66 := hN66.ext hE82
            replace hB16 := hB16.ext hE82
            replace hF68 := hF68.ext hE82
            replace hI68 := hI68.ext hE82
            replace hF70 := hF70.ext hE82
            replace hI70 := hI70.ext hE82
            replace hO77 := hO77.ext hE82
            replace hB19 := hB19.ext hE82
            refine WL_q rfl (ev_not rfl) ?_
            refine WL_q rfl (ev_move rfl) ?_
            refine WL_splitv (t := 84) rfl (fun hg83 => ?_) (fun hg83 => ?_)
            · have hg82 := not_true hg83
              refine WL_no rfl rfl hg83 rfl ?_
              refine WL_no rfl rfl hg83 rfl ?_
              refine WL_no rfl rfl hg83 rfl ?_
              refine WL_q rfl (ev_pick_t rfl hg83 rfl) ?_
              refine WL_nil ?_
              refine thenE_n ?_
              refine W_cond_t rfl ?_
              refine W_seq ?_
              refine W_region ?_
              refine WL_q rfl (ev_assign rfl) ?_
              refine WL_nil ?_
              refine thenE_n ?_
              refine W_ret ?_
              refine thenE_r ?_
              refine ret1 rfl rfl ?_
              first | (exact ⟨rfl, hE⟩) | (exact (bneE hg82 (hr77.det1 hr58)).elim) | (exact absurd (hr77.det1 hr58) hp82) | (exact absurd (hr77.det1 hr58) (of_decide_eq_false hg82)) | (exact (bneE hg82 (hr77.det2 hr58)).elim) | (exact absurd (hr77.det2 hr58) hp82) | (exact absurd (hr77.det2 hr58) (of_decide_eq_false hg82)) | (exact (bneE hg82 (hr77.det3 hr58)).elim) | (exact absurd (hr77.det3 hr58) hp82) | (exact absurd (hr77.det3 hr58) (of_decide_eq_false hg82)) | (exact (tfX hg82).elim) | (exact (decF hg82).elim) | (exfalso; omega)
            · have hg82 := not_false hg83
              refine WL_qg rfl rfl hg83 rfl (ev_move rfl) ?_
              refine WL_qg rfl rfl hg83 rfl (ev_move rfl) ?_
              refine WL_qg rfl rfl hg83 rfl (ev_neq_b Try.underlying4 rfl rfl) ?_
              refine WL_q rfl (ev_pick_f rfl hg83 rfl) ?_
              refine WL_nil ?_
              refine thenE_n ?_
              refine W_cond rfl (fun hg87 => ?_) (fun hg87 => ?_)
              · refine W_seq ?_
                refine W_region ?_
                refine WL_q rfl (ev_assign rfl) ?_
                refine WL_nil ?_
                refine thenE_n ?_
                refine W_ret ?_
                refine thenE_r ?_
                refine ret1 rfl rfl ?_
                first | (exact ⟨rfl, hE⟩) | (exact (bneE hg87 (hr77.det1 hr58)).elim) | (exact absurd (hr77.det1 hr58) hp87) | (exact absurd (hr77.det1 hr58) (of_decide_eq_false hg87)) | (exact (bneE hg87 (hr77.det2 hr58)).elim) | (exact absurd (hr77.det2 hr58) hp87) | (exact absurd (hr77.det2 hr58) (of_decide_eq_false hg87)) | (exact (bneE hg87 (hr77.det3 hr58)).elim) | (exact absurd (hr77.det3 hr58) hp87) | (exact absurd (hr77.det3 hr58) (of_decide_eq_false hg87)) | (exact (tfX hg87).elim) | (exact (decF hg87).elim) | (exfalso; omega)
              · refine W_skip ?_
                refine thenE_n ?_
                refine W_seq ?_
                refine W_seq ?_
                refine W_drawE [(0, true), (1, true), (2, false), (3, false), (4, true)] mixed (by kernel_rfl) rfl (by kernel_rfl) ?_
                intro wd24 hEd24 hzd24
                replace hE := hE.trans hEd24
                replace hA := hA.ext hEd24
                replace hB := hB.ext hEd24
                replace hD := hD.ext hEd24
                replace hff := hff.ext hEd24
                replace hgg := hgg.ext hEd24
                replace hB5 := hB5.ext hEd24
                replace hB6 := hB6.ext hEd24
                replace hB7 := hB7.ext hEd24
                replace hB12 := hB12.ext hEd24
                replace hN58 := hN58.ext hEd24
                replace hF62 := hF62.ext hEd24
                replace hN62 := hN62.ext hEd24
                replace hB14 := hB14.ext hEd24
                replace hF64 := hF64.ext hEd24
                replace hN64 := hN64.ext hEd24
                replace hB15 := hB15.ext hEd24
                replace hF66 := hF66.ext hEd24
                replace hN66 := hN66.ext hEd24
                replace hB16 := hB16.ext hEd24
                replace hF68 := hF68.ext hEd24
                replace hI68 := hI68.ext hEd24
                replace hF70 := hF70.ext hEd24
                replace hI70 := hI70.ext hEd24
                replace hO77 := hO77.ext hEd24
                replace hB19 := hB19.ext hEd24
                have hDd24 := Ext.refl wd24
                refine PW_q rfl rfl (fun wq hq => ev_loads st31 sz31 rfl (cellsB (hq.blk hB14)) rfl) ?_
                refine PW_q rfl rfl (fun wq hq => ev_loads st25 sz25 rfl (cellsB (hq.blk hB5)) rfl) ?_
                refine PW_m rfl rfl (ev_call rfl (toNetwork_spec _ A _ hA (by omega) (by omega))) ?_
                rintro _ w91 ⟨h91, rfl, hF91, hE91⟩
                have hz91 := hE91.size
                replace hE := hE.trans hE91
                replace hDd24 := hDd24.trans hE91
                have hN91 := hF91.is
                refine ⟨hDd24, ?_⟩
                have hA_3 := hA.ext hDd24
                have hB_3 := hB.ext hDd24
                have hD_3 := hD.ext hDd24
                have hff_3 := hff.ext hDd24
                have hgg_3 := hgg.ext hDd24
                have hB5_3 := hB5.ext hDd24
                have hB6_3 := hB6.ext hDd24
                have hB7_3 := hB7.ext hDd24
                have hB12_3 := hB12.ext hDd24
                have hN58_3 := hN58.ext hDd24
                have hF62_3 := hF62.ext hDd24
                have hN62_3 := hN62.ext hDd24
                have hB14_3 := hB14.ext hDd24
                have hF64_3 := hF64.ext hDd24
                have hN64_3 := hN64.ext hDd24
                have hB15_3 := hB15.ext hDd24
                have hF66_3 := hF66.ext hDd24
                have hN66_3 := hN66.ext hDd24
                have hB16_3 := hB16.ext hDd24
                have hF68_3 := hF68.ext hDd24
                have hI68_3 := hI68.ext hDd24
                have hF70_3 := hF70.ext hDd24
                have hI70_3 := hI70.ext hDd24
                have hO77_3 := hO77.ext hDd24
                have hB19_3 := hB19.ext hDd24
                refine PW_m rfl rfl (ev_call rfl (eqNetwork_spec _ _ A _ hN62_3 hN91 (by omega))) ?_
                rintro _ w92 ⟨rfl, hE92⟩
                have hz92 := hE92.size
                replace hE := hE.trans hE92
                replace hDd24 := hDd24.trans hE92
                replace hF91 := hF91.ext hE92
                replace hN91 := hN91.ext hE92
                refine ⟨hDd24, ?_⟩
                refine PW_q rfl rfl (fun wq hq => ev_not rfl) ?_
                replace hA := hA.ext hDd24
                replace hB := hB.ext hDd24
                replace hD := hD.ext hDd24
                replace hff := hff.ext hDd24
                replace hgg := hgg.ext hDd24
                replace hB5 := hB5.ext hDd24
                replace hB6 := hB6.ext hDd24
                replace hB7 := hB7.ext hDd24
                replace hB12 := hB12.ext hDd24
                replace hN58 := hN58.ext hDd24
                replace hF62 := hF62.ext hDd24
                replace hN62 := hN62.ext hDd24
                replace hB14 := hB14.ext hDd24
                replace hF64 := hF64.ext hDd24
                replace hN64 := hN64.ext hDd24
                replace hB15 := hB15.ext hDd24
                replace hF66 := hF66.ext hDd24
                replace hN66 := hN66.ext hDd24
                replace hB16 := hB16.ext hDd24
                replace hF68 := hF68.ext hDd24
                replace hI68 := hI68.ext hDd24
                replace hF70 := hF70.ext hDd24
                replace hI70 := hI70.ext hDd24
                replace hO77 := hO77.ext hDd24
                replace hB19 := hB19.ext hDd24
                refine PW_nil ?_
                refine thenE_n ?_
                refine W_cond rfl (fun hg93 => ?_) (fun hg93 => ?_)
                · have hg92 := not_true hg93
                  refine W_seq ?_
                  refine W_region ?_
                  refine WL_q rfl (ev_assign rfl) ?_
                  refine WL_nil ?_
                  refine thenE_n ?_
                  refine W_ret ?_
                  refine thenE_r ?_
                  refine ret1 rfl rfl ?_
                  first | (exact ⟨rfl, hE⟩) | (exact (bneE hg92 (hr77.det1 hr58)).elim) | (exact absurd (hr77.det1 hr58) hp92) | (exact absurd (hr77.det1 hr58) (of_decide_eq_false hg92)) | (exact (bneE hg92 (hr77.det2 hr58)).elim) | (exact absurd (hr77.det2 hr58) hp92) | (exact absurd (hr77.det2 hr58) (of_decide_eq_false hg92)) | (exact (bneE hg92 (hr77.det3 hr58)).elim) | (exact absurd (hr77.det3 hr58) hp92) | (exact absurd (hr77.det3 hr58) (of_decide_eq_false hg92)) | (exact (tfX hg92).elim) | (exact (decF hg92).elim) | (exfalso; omega)
                · have hg92 := not_false hg93
                  refine W_skip ?_
                  refine thenE_n ?_
                  refine W_seq ?_
                  refine W_seq ?_
                  refine W_drawE [(0, true), (1, true), (2, false), (3, false), (4, true)] mixed (by kernel_rfl) rfl (by kernel_rfl) ?_
                  intro wd26 hEd26 hzd26
                  replace hE := hE.trans hEd26
                  replace hA := hA.ext hEd26
                  replace hB := hB.ext hEd26
                  replace hD := hD.ext hEd26
                  replace hff := hff.ext hEd26
                  replace hgg := hgg.ext hEd26
                  replace hB5 := hB5.ext hEd26
                  replace hB6 := hB6.ext hEd26
                  replace hB7 := hB7.ext hEd26
                  replace hB12 := hB12.ext hEd26
                  replace hN58 := hN58.ext hEd26
                  replace hF62 := hF62.ext hEd26
                  replace hN62 := hN62.ext hEd26
                  replace hB14 := hB14.ext hEd26
                  replace hF64 := hF64.ext hEd26
                  replace hN64 := hN64.ext hEd26
                  replace hB15 := hB15.ext hEd26
                  replace hF66 := hF66.ext hEd26
                  replace hN66 := hN66.ext hEd26
                  replace hB16 := hB16.ext hEd26
                  replace hF68 := hF68.ext hEd26
                  replace hI68 := hI68.ext hEd26
                  replace hF70 := hF70.ext hEd26
                  replace hI70 := hI70.ext hEd26
                  replace hO77 := hO77.ext hEd26
                  replace hB19 := hB19.ext hEd26
                  replace hF91 := hF91.ext hEd26
                  replace hN91 := hN91.ext hEd26
                  have hDd26 := Ext.refl wd26
                  refine PW_q rfl rfl (fun wq hq => ev_loads st31 sz31 rfl (cellsB (hq.blk hB15)) rfl) ?_
                  refine PW_q rfl rfl (fun wq hq => ev_loads st25 sz25 rfl (cellsB (hq.blk hB6)) rfl) ?_
                  refine PW_m rfl rfl (ev_call rfl (toNetwork_spec _ B _ hB (by omega) (by omega))) ?_
                  rintro _ w96 ⟨h96, rfl, hF96, hE96⟩
                  have hz96 := hE96.size
                  replace hE := hE.trans hE96
                  replace hDd26 := hDd26.trans hE96
                  have hN96 := hF96.is
                  refine ⟨hDd26, ?_⟩
                  have hA_3 := hA.ext hDd26
                  have hB_3 := hB.ext hDd26
                  have hD_3 := hD.ext hDd26
                  have hff_3 := hff.ext hDd26
                  have hgg_3 := hgg.ext hDd26
                  have hB5_3 := hB5.ext hDd26
                  have hB6_3 := hB6.ext hDd26
                  have hB7_3 := hB7.ext hDd26
                  have hB12_3 := hB12.ext hDd26
                  have hN58_3 := hN58.ext hDd26
                  have hF62_3 := hF62.ext hDd26
                  have hN62_3 := hN62.ext hDd26
                  have hB14_3 := hB14.ext hDd26
                  have hF64_3 := hF64.ext hDd26
                  have hN64_3 := hN64.ext hDd26
                  have hB15_3 := hB15.ext hDd26
                  have hF66_3 := hF66.ext hDd26
                  have hN66_3 := hN66.ext hDd26
                  have hB16_3 := hB16.ext hDd26
                  have hF68_3 := hF68.ext hDd26
                  have hI68_3 := hI68.ext hDd26
                  have hF70_3 := hF70.ext hDd26
                  have hI70_3 := hI70.ext hDd26
                  have hO77_3 := hO77.ext hDd26
                  have hB19_3 := hB19.ext hDd26
                  have hF91_3 := hF91.ext hDd26
                  have hN91_3 := hN91.ext hDd26
                  refine PW_m rfl rfl (ev_call rfl (eqNetwork_spec _ _ B _ hN64_3 hN96 (by omega))) ?_
                  rintro _ w97 ⟨rfl, hE97⟩
                  have hz97 := hE97.size
                  replace hE := hE.trans hE97
                  replace hDd26 := hDd26.trans hE97
                  replace hF96 := hF96.ext hE97
                  replace hN96 := hN96.ext hE97
                  refine ⟨hDd26, ?_⟩
                  refine PW_q rfl rfl (fun wq hq => ev_not rfl) ?_
                  replace hA := hA.ext hDd26
                  replace hB := hB.ext hDd26
                  replace hD := hD.ext hDd26
                  replace hff := hff.ext hDd26
                  replace hgg := hgg.ext hDd26
                  replace hB5 := hB5.ext hDd26
                  replace hB6 := hB6.ext hDd26
                  replace hB7 := hB7.ext hDd26
                  replace hB12 := hB12.ext hDd26
                  replace hN58 := hN58.ext hDd26
                  replace hF62 := hF62.ext hDd26
                  replace hN62 := hN62.ext hDd26
                  replace hB14 := hB14.ext hDd26
                  replace hF64 := hF64.ext hDd26
                  replace hN64 := hN64.ext hDd26
                  replace hB15 := hB15.ext hDd26
                  replace hF66 := hF66.ext hDd26
                  replace hN66 := hN66.ext hDd26
                  replace hB16 := hB16.ext hDd26
                  replace hF68 := hF68.ext hDd26
                  replace hI68 := hI68.ext hDd26
                  replace hF70 := hF70.ext hDd26
                  replace hI70 := hI70.ext hDd26
                  replace hO77 := hO77.ext hDd26
                  replace hB19 := hB19.ext hDd26
                  replace hF91 := hF91.ext hDd26
                  replace hN91 := hN91.ext hDd26
                  refine PW_nil ?_
                  refine thenE_n ?_
                  refine W_cond rfl (fun hg98 => ?_) (fun hg98 => ?_)
                  · have hg97 := not_true hg98
                    refine W_seq ?_
                    refine W_region ?_
                    refine WL_q rfl (ev_assign rfl) ?_
                    refine WL_nil ?_
                    refine thenE_n ?_
                    refine W_ret ?_
                    refine thenE_r ?_
                    refine ret1 rfl rfl ?_
                    first | (exact ⟨rfl, hE⟩) | (exact (bneE hg97 (hr77.det1 hr58)).elim) | (exact absurd (hr77.det1 hr58) hp97) | (exact absurd (hr77.det1 hr58) (of_decide_eq_false hg97)) | (exact (bneE hg97 (hr77.det2 hr58)).elim) | (exact absurd (hr77.det2 hr58) hp97) | (exact absurd (hr77.det2 hr58) (of_decide_eq_false hg97)) | (exact (bneE hg97 (hr77.det3 hr58)).elim) | (exact absurd (hr77.det3 hr58) hp97) | (exact absurd (hr77.det3 hr58) (of_decide_eq_false hg97)) | (exact (tfX hg97).elim) | (exact (decF hg97).elim) | (exfalso; omega)
                  · have hg97 := not_false hg98
                    refine W_skip ?_
                    refine thenE_n ?_
                    refine W_seq ?_
                    refine W_seq ?_
                    refine W_drawE [(0, true), (1, true), (2, false), (3, false), (4, true)] mixed (by kernel_rfl) rfl (by kernel_rfl) ?_
                    intro wd28 hEd28 hzd28
                    replace hE := hE.trans hEd28
                    replace hA := hA.ext hEd28
                    replace hB := hB.ext hEd28
                    replace hD := hD.ext hEd28
                    replace hff := hff.ext hEd28
                    replace hgg := hgg.ext hEd28
                    replace hB5 := hB5.ext hEd28
                    replace hB6 := hB6.ext hEd28
                    replace hB7 := hB7.ext hEd28
                    replace hB12 := hB12.ext hEd28
                    replace hN58 := hN58.ext hEd28
                    replace hF62 := hF62.ext hEd28
                    replace hN62 := hN62.ext hEd28
                    replace hB14 := hB14.ext hEd28
                    replace hF64 := hF64.ext hEd28
                    replace hN64 := hN64.ext hEd28
                    replace hB15 := hB15.ext hEd28
                    replace hF66 := hF66.ext hEd28
                    replace hN66 := hN66.ext hEd28
                    replace hB16 := hB16.ext hEd28
                    replace hF68 := hF68.ext hEd28
                    replace hI68 := hI68.ext hEd28
                    replace hF70 := hF70.ext hEd28
                    replace hI70 := hI70.ext hEd28
                    replace hO77 := hO77.ext hEd28
                    replace hB19 := hB19.ext hEd28
                    replace hF91 := hF91.ext hEd28
                    replace hN91 := hN91.ext hEd28
                    replace hF96 := hF96.ext hEd28
                    replace hN96 := hN96.ext hEd28
                    have hDd28 := Ext.refl wd28
                    refine PW_q rfl rfl (fun wq hq => ev_loads st31 sz31 rfl (cellsB (hq.blk hB16)) rfl) ?_
                    refine PW_q rfl rfl (fun wq hq => ev_loads st25 sz25 rfl (cellsB (hq.blk hB7)) rfl) ?_
                    refine PW_m rfl rfl (ev_call rfl (toNetwork_spec _ D _ hD (by omega) (by omega))) ?_
                    rintro _ w101 ⟨h101, rfl, hF101, hE101⟩
                    have hz101 := hE101.size
                    replace hE := hE.trans hE101
                    replace hDd28 := hDd28.trans hE101
                    have hN101 := hF101.is
                    refine ⟨hDd28, ?_⟩
                    have hA_3 := hA.ext hDd28
                    have hB_3 := hB.ext hDd28
                    have hD_3 := hD.ext hDd28
                    have hff_3 := hff.ext hDd28
                    have hgg_3 := hgg.ext hDd28
                    have hB5_3 := hB5.ext hDd28
                    have hB6_3 := hB6.ext hDd28
                    have hB7_3 := hB7.ext hDd28
                    have hB12_3 := hB12.ext hDd28
                    have hN58_3 := hN58.ext hDd28
                    have hF62_3 := hF62.ext hDd28
                    have hN62_3 := hN62.ext hDd28
                    have hB14_3 := hB14.ext hDd28
                    have hF64_3 := hF64.ext hDd28
                    have hN64_3 := hN64.ext hDd28
                    have hB15_3 := hB15.ext hDd28
                    have hF66_3 := hF66.ext hDd28
                    have hN66_3 := hN66.ext hDd28
                    have hB16_3 := hB16.ext hDd28
                    have hF68_3 := hF68.ext hDd28
                    have hI68_3 := hI68.ext hDd28
                    have hF70_3 := hF70.ext hDd28
                    have hI70_3 := hI70.ext hDd28
                    have hO77_3 := hO77.ext hDd28
                    have hB19_3 := hB19.ext hDd28
                    have hF91_3 := hF91.ext hDd28
                    have hN91_3 := hN91.ext hDd28
                    have hF96_3 := hF96.ext hDd28
                    have hN96_3 := hN96.ext hDd28
                    refine PW_m rfl rfl (ev_call rfl (eqNetwork_spec _ _ D _ hN66_3 hN101 (by omega))) ?_
                    rintro _ w102 ⟨rfl, hE102⟩
                    have hz102 := hE102.size
                    replace hE := hE.trans hE102
                    replace hDd28 := hDd28.trans hE102
                    replace hF101 := hF101.ext hE102
                    replace hN101 := hN101.ext hE102
                    refine ⟨hDd28, ?_⟩
                    refine PW_q rfl rfl (fun wq hq => ev_not rfl) ?_
                    replace hA := hA.ext hDd28
                    replace hB := hB.ext hDd28
                    replace hD := hD.ext hDd28
                    replace hff := hff.ext hDd28
                    replace hgg := hgg.ext hDd28
                    replace hB5 := hB5.ext hDd28
                    replace hB6 := hB6.ext hDd28
                    replace hB7 := hB7.ext hDd28
                    replace hB12 := hB12.ext hDd28
                    replace hN58 := hN58.ext hDd28
                    replace hF62 := hF62.ext hDd28
                    replace hN62 := hN62.ext hDd28
                    replace hB14 := hB14.ext hDd28
                    replace hF64 := hF64.ext hDd28
                    replace hN64 := hN64.ext hDd28
                    replace hB15 := hB15.ext hDd28
                    replace hF66 := hF66.ext hDd28
                    replace hN66 := hN66.ext hDd28
                    replace hB16 := hB16.ext hDd28
                    replace hF68 := hF68.ext hDd28
                    replace hI68 := hI68.ext hDd28
                    replace hF70 := hF70.ext hDd28
                    replace hI70 := hI70.ext hDd28
                    replace hO77 := hO77.ext hDd28
                    replace hB19 := hB19.ext hDd28
                    replace hF91 := hF91.ext hDd28
                    replace hN91 := hN91.ext hDd28
                    replace hF96 := hF96.ext hDd28
                    replace hN96 := hN96.ext hDd28
                    refine PW_nil ?_
                    refine thenE_n ?_
                    refine W_cond rfl (fun hg103 => ?_) (fun hg103 => ?_)
                    · have hg102 := not_true hg103
                      refine W_seq ?_
                      refine W_region ?_
                      refine WL_q rfl (ev_assign rfl) ?_
                      refine WL_nil ?_
                      refine thenE_n ?_
                      refine W_ret ?_
                      refine thenE_r ?_
                      refine ret1 rfl rfl ?_
                      first | (exact ⟨rfl, hE⟩) | (exact (bneE hg102 (hr77.det1 hr58)).elim) | (exact absurd (hr77.det1 hr58) hp102) | (exact absurd (hr77.det1 hr58) (of_decide_eq_false hg102)) | (exact (bneE hg102 (hr77.det2 hr58)).elim) | (exact absurd (hr77.det2 hr58) hp102) | (exact absurd (hr77.det2 hr58) (of_decide_eq_false hg102)) | (exact (bneE hg102 (hr77.det3 hr58)).elim) | (exact absurd (hr77.det3 hr58) hp102) | (exact absurd (hr77.det3 hr58) (of_decide_eq_false hg102)) | (exact (tfX hg102).elim) | (exact (decF hg102).elim) | (exfalso; omega)
                    · have hg102 := not_false hg103
                      refine W_skip ?_
                      refine thenE_n ?_
                      refine W_seq ?_
                      refine W_seq ?_
                      refine W_region ?_
                      refine WL_q rfl (ev_move rfl) ?_
                      refine WL_q rfl (ev_move rfl) ?_
                      refine WL_m rfl (ev_call rfl (toIntS_spec _ _ ff _ hff (by omega) (by omega))) ?_
                      rintro _ w106 ⟨a106, rfl, hF106, hE106⟩
                      have hz106 := hE106.size
                      replace hE := hE.trans hE106
                      replace hA := hA.ext hE106
                      replace hB := hB.ext hE106
                      replace hD := hD.ext hE106
                      replace hff := hff.ext hE106
                      replace hgg := hgg.ext hE106
                      replace hB5 := hB5.ext hE106
                      replace hB6 := hB6.ext hE106
                      replace hB7 := hB7.ext hE106
                      replace hB12 := hB12.ext hE106
                      replace hN58 := hN58.ext hE106
                      replace hF62 := hF62.ext hE106
                      replace hN62 := hN62.ext hE106
                      replace hB14 := hB14.ext hE106
                      replace hF64 := hF64.ext hE106
                      replace hN64 := hN64.ext hE106
                      replace hB15 := hB15.ext hE106
                      replace hF66 := hF66.ext hE106
                      replace hN66 := hN66.ext hE106
                      replace hB16 := hB16.ext hE106
                      replace hF68 := hF68.ext hE106
                      replace hI68 := hI68.ext hE106
                      replace hF70 := hF70.ext hE106
                      replace hI70 := hI70.ext hE106
                      replace hO77 := hO77.ext hE106
                      replace hB19 := hB19.ext hE106
                      replace hF91 := hF91.ext hE106
                      replace hN91 := hN91.ext hE106
                      replace hF96 := hF96.ext hE106
                      replace hN96 := hN96.ext hE106
                      replace hF101 := hF101.ext hE106
                      replace hN101 := hN101.ext hE106
                      have hI106 := hF106.is
                      refine WL_m rfl (ev_call rfl (eqIntS_spec _ _ _ _ ff ff _ hI68 hI106 (by omega))) ?_
                      rintro _ w107 ⟨rfl, hE107⟩
                      have hz107 := hE107.size
                      replace hE := hE.trans hE107
                      replace hA := hA.ext hE107
                      replace hB := hB.ext hE107
                      replace hD := hD.ext hE107
                      replace hff := hff.ext hE107
                      replace hgg := hgg.ext hE107
                      replace hB5 := hB5.ext hE107
                      replace hB6 := hB6.ext hE107
                      replace hB7 := hB7.ext hE107
                      replace hB12 := hB12.ext hE107
                      replace hN58 := hN58.ext hE107
                      replace hF62 := hF62.ext hE107
                      replace hN62 := hN62.ext hE107
                      replace hB14 := hB14.ext hE107
                      replace hF64 := hF64.ext hE107
                      replace hN64 := hN64.ext hE107
                      replace hB15 := hB15.ext hE107
                      replace hF66 := hF66.ext hE107
                      replace hN66 := hN66.ext hE107
                      replace hB16 := hB16.ext hE107
                      replace hF68 := hF68.ext hE107
                      replace hI68 := hI68.ext hE107
                      replace hF70 := hF70.ext hE107
                      replace hI70 := hI70.ext hE107
                      replace hO77 := hO77.ext hE107
                      replace hB19 := hB19.ext hE107
                      replace hF91 := hF91.ext hE107
                      replace hN91 := hN91.ext hE107
                      replace hF96 := hF96.ext hE107
                      replace hN96 := hN96.ext hE107
                      replace hF101 := hF101.ext hE107
                      replace hN101 := hN101.ext hE107
                      replace hF106 := hF106.ext hE107
                      replace hI106 := hI106.ext hE107
                      refine WL_q rfl (ev_not rfl) ?_
                      refine WL_nil ?_
                      refine thenE_n ?_
                      refine W_cond rfl (fun hg108 => ?_) (fun hg108 => ?_)
                      · have hg107 := not_true hg108
                        refine W_seq ?_
                        refine W_region ?_
                        refine WL_q rfl (ev_assign rfl) ?_
                        refine WL_nil ?_
                        refine thenE_n ?_
                        refine W_ret ?_
                        refine thenE_r ?_
                        refine ret1 rfl rfl ?_
                        first | (exact ⟨rfl, hE⟩) | (exact (bneE hg107 (hr77.det1 hr58)).elim) | (exact absurd (hr77.det1 hr58) hp107) | (exact absurd (hr77.det1 hr58) (of_decide_eq_false hg107)) | (exact (bneE hg107 (hr77.det2 hr58)).elim) | (exact absurd (hr77.det2 hr58) hp107) | (exact absurd (hr77.det2 hr58) (of_decide_eq_false hg107)) | (exact (bneE hg107 (hr77.det3 hr58)).elim) | (exact absurd (hr77.det3 hr58) hp107) | (exact absurd (hr77.det3 hr58) (of_decide_eq_false hg107)) | (exact (tfX hg107).elim) | (exact (decF hg107).elim) | (exfalso; omega)
                      · have hg107 := not_false hg108
                        refine W_skip ?_
                        refine thenE_n ?_
                        refine W_seq ?_
                        refine W_seq ?_
                        refine W_region ?_
                        refine WL_q rfl (ev_move rfl) ?_
                        refine WL_q rfl (ev_move rfl) ?_
                        refine WL_m rfl (ev_call rfl (toIntS_spec _ _ gg _ hgg (by omega) (by omega))) ?_
                        rintro _ w111 ⟨a111, rfl, hF111, hE111⟩
                        have hz111 := hE111.size
                        replace hE := hE.trans hE111
                        replace hA := hA.ext hE111
                        replace hB := hB.ext hE111
                        replace hD := hD.ext hE111
                        replace hff := hff.ext hE111
                        replace hgg := hgg.ext hE111
                        replace hB5 := hB5.ext hE111
                        replace hB6 := hB6.ext hE111
                        replace hB7 := hB7.ext hE111
                        replace hB12 := hB12.ext hE111
                        replace hN58 := hN58.ext hE111
                        replace hF62 := hF62.ext hE111
                        replace hN62 := hN62.ext hE111
                        replace hB14 := hB14.ext hE111
                        replace hF64 := hF64.ext hE111
                        replace hN64 := hN64.ext hE111
                        replace hB15 := hB15.ext hE111
                        replace hF66 := hF66.ext hE111
                        replace hN66 := hN66.ext hE111
                        replace hB16 := hB16.ext hE111
                        replace hF68 := hF68.ext hE111
                        replace hI68 := hI68.ext hE111
                        replace hF70 := hF70.ext hE111
                        replace hI70 := hI70.ext hE111
                        replace hO77 := hO77.ext hE111
                        replace hB19 := hB19.ext hE111
                        replace hF91 := hF91.ext hE111
                        replace hN91 := hN91.ext hE111
                        replace hF96 := hF96.ext hE111
                        replace hN96 := hN96.ext hE111
                        replace hF101 := hF101.ext hE111
                        replace hN101 := hN101.ext hE111
                        replace hF106 := hF106.ext hE111
                        replace hI106 := hI106.ext hE111
                        have hI111 := hF111.is
                        refine WL_m rfl (ev_call rfl (eqIntS_spec _ _ _ _ gg gg _ hI70 hI111 (by omega))) ?_
                        rintro _ w112 ⟨rfl, hE112⟩
                        have hz112 := hE112.size
                        replace hE := hE.trans hE112
                        replace hA := hA.ext hE112
                        replace hB := hB.ext hE112
                        replace hD := hD.ext hE112
                        replace hff := hff.ext hE112
                        replace hgg := hgg.ext hE112
                        replace hB5 := hB5.ext hE112
                        replace hB6 := hB6.ext hE112
                        replace hB7 := hB7.ext hE112
                        replace hB12 := hB12.ext hE112
                        replace hN58 := hN58.ext hE112
                        replace hF62 := hF62.ext hE112
                        replace hN62 := hN62.ext hE112
                        replace hB14 := hB14.ext hE112
                        replace hF64 := hF64.ext hE112
                        replace hN64 := hN64.ext hE112
                        replace hB15 := hB15.ext hE112
                        replace hF66 := hF66.ext hE112
                        replace hN66 := hN66.ext hE112
                        replace hB16 := hB16.ext hE112
                        replace hF68 := hF68.ext hE112
                        replace hI68 := hI68.ext hE112
                        replace hF70 := hF70.ext hE112
                        replace hI70 := hI70.ext hE112
                        replace hO77 := hO77.ext hE112
                        replace hB19 := hB19.ext hE112
                        replace hF91 := hF91.ext hE112
                        replace hN91 := hN91.ext hE112
                        replace hF96 := hF96.ext hE112
                        replace hN96 := hN96.ext hE112
                        replace hF101 := hF101.ext hE112
                        replace hN101 := hN101.ext hE112
                        replace hF106 := hF106.ext hE112
                        replace hI106 := hI106.ext hE112
                        replace hF111 := hF111.ext hE112
                        replace hI111 := hI111.ext hE112
                        refine WL_q rfl (ev_not rfl) ?_
                        refine WL_nil ?_
                        refine thenE_n ?_
                        refine W_cond rfl (fun hg113 => ?_) (fun hg113 => ?_)
                        · have hg112 := not_true hg113
                          refine W_seq ?_
                          refine W_region ?_
                          refine WL_q rfl (ev_assign rfl) ?_
                          refine WL_nil ?_
                          refine thenE_n ?_
                          refine W_ret ?_
                          refine thenE_r ?_
                          refine ret1 rfl rfl ?_
                          first | (exact ⟨rfl, hE⟩) | (exact (bneE hg112 (hr77.det1 hr58)).elim) | (exact absurd (hr77.det1 hr58) hp112) | (exact absurd (hr77.det1 hr58) (of_decide_eq_false hg112)) | (exact (bneE hg112 (hr77.det2 hr58)).elim) | (exact absurd (hr77.det2 hr58) hp112) | (exact absurd (hr77.det2 hr58) (of_decide_eq_false hg112)) | (exact (bneE hg112 (hr77.det3 hr58)).elim) | (exact absurd (hr77.det3 hr58) hp112) | (exact absurd (hr77.det3 hr58) (of_decide_eq_false hg112)) | (exact (tfX hg112).elim) | (exact (decF hg112).elim) | (exfalso; omega)
                        · have hg112 := not_false hg113
                          refine W_skip ?_
                          refine thenE_n ?_
                          refine W_seq ?_
                          refine W_region ?_
                          refine WL_q rfl (ev_assign rfl) ?_
                          refine WL_nil ?_
                          refine thenE_n ?_
                          refine W_seq ?_
                          refine W_region ?_
                          refine WL_q rfl (ev_loads st31 sz31 rfl (cellsB hB14) rfl) ?_
                          refine WL_q rfl (ev_move rfl) ?_
                          refine WL_m rfl (ev_call rfl (markNetwork_spec _ A _ _ hF62 (by omega) (by omega) (by omega))) ?_
                          rintro _ w116 ⟨r116, rfl, hr116, hK116⟩
                          have hz116 := hK116.size
                          replace hE := hE.mrk hK116 (by omega)
                          replace hA := hA.mrk hK116 (by omega)
                          replace hB := hB.mrk hK116 (by omega)
                          replace hD := hD.mrk hK116 (by omega)
                          replace hff := hff.mrk hK116 (by omega)
                          replace hgg := hgg.mrk hK116 (by omega)
                          replace hB5 := hB5.mrk hK116 (by omega)
                          replace hB6 := hB6.mrk hK116 (by omega)
                          replace hB7 := hB7.mrk hK116 (by omega)
                          replace hB12 := hB12.mrk hK116 (by omega)
                          replace hN58 := hN58.mrk hK116 (by omega)
                          replace hB14 := hB14.mrk hK116 (by omega)
                          replace hF64 := hF64.mrk hK116 (by omega)
                          replace hN64 := hN64.mrk hK116 (by omega)
                          replace hB15 := hB15.mrk hK116 (by omega)
                          replace hF66 := hF66.mrk hK116 (by omega)
                          replace hN66 := hN66.mrk hK116 (by omega)
                          replace hB16 := hB16.mrk hK116 (by omega)
                          replace hF68 := hF68.mrk hK116 (by omega)
                          replace hI68 := hI68.mrk hK116 (by omega)
                          replace hF70 := hF70.mrk hK116 (by omega)
                          replace hI70 := hI70.mrk hK116 (by omega)
                          replace hO77 := hO77.mrk hK116 (by omega)
                          replace hB19 := hB19.mrk hK116 (by omega)
                          replace hF91 := hF91.mrk hK116 (by omega)
                          replace hN91 := hN91.mrk hK116 (by omega)
                          replace hF96 := hF96.mrk hK116 (by omega)
                          replace hN96 := hN96.mrk hK116 (by omega)
                          replace hF101 := hF101.mrk hK116 (by omega)
                          replace hN101 := hN101.mrk hK116 (by omega)
                          replace hF106 := hF106.mrk hK116 (by omega)
                          replace hI106 := hI106.mrk hK116 (by omega)
                          replace hF111 := hF111.mrk hK116 (by omega)
                          replace hI111 := hI111.mrk hK116 (by omega)
                          refine WL_q rfl (ev_assign rfl) ?_
                          refine WL_nil ?_
                          refine thenE_n ?_
                          refine W_seq ?_
                          refine W_region ?_
                          refine WL_q rfl (ev_loads st31 sz31 rfl (cellsB hB15) rfl) ?_
                          refine WL_q rfl (ev_move rfl) ?_
                          refine WL_m rfl (ev_call rfl (markNetwork_spec _ B _ _ hF64 (by omega) (by omega) (by omega))) ?_
                          rintro _ w119 ⟨r119, rfl, hr119, hK119⟩
                          have hz119 := hK119.size
                          replace hE := hE.mrk hK119 (by omega)
                          replace hA := hA.mrk hK119 (by omega)
                          replace hB := hB.mrk hK119 (by omega)
                          replace hD := hD.mrk hK119 (by omega)
                          replace hff := hff.mrk hK119 (by omega)
                          replace hgg := hgg.mrk hK119 (by omega)
                          replace hB5 := hB5.mrk hK119 (by omega)
                          replace hB6 := hB6.mrk hK119 (by omega)
                          replace hB7 := hB7.mrk hK119 (by omega)
                          replace hB12 := hB12.mrk hK119 (by omega)
                          replace hN58 := hN58.mrk hK119 (by omega)
                          replace hB14 := hB14.mrk hK119 (by omega)
                          replace hB15 := hB15.mrk hK119 (by omega)
                          replace hF66 := hF66.mrk hK119 (by omega)
                          replace hN66 := hN66.mrk hK119 (by omega)
                          replace hB16 := hB16.mrk hK119 (by omega)
                          replace hF68 := hF68.mrk hK119 (by omega)
                          replace hI68 := hI68.mrk hK119 (by omega)
                          replace hF70 := hF70.mrk hK119 (by omega)
                          replace hI70 := hI70.mrk hK119 (by omega)
                          replace hO77 := hO77.mrk hK119 (by omega)
                          replace hB19 := hB19.mrk hK119 (by omega)
                          replace hF91 := hF91.mrk hK119 (by omega)
                          replace hN91 := hN91.mrk hK119 (by omega)
                          replace hF96 := hF96.mrk hK119 (by omega)
                          replace hN96 := hN96.mrk hK119 (by omega)
                          replace hF101 := hF101.mrk hK119 (by omega)
                          replace hN101 := hN101.mrk hK119 (by omega)
                          replace hF106 := hF106.mrk hK119 (by omega)
                          replace hI106 := hI106.mrk hK119 (by omega)
                          replace hF111 := hF111.mrk hK119 (by omega)
                          replace hI111 := hI111.mrk hK119 (by omega)
                          refine WL_q rfl (ev_assign rfl) ?_
                          refine WL_nil ?_
                          refine thenE_n ?_
                          refine W_seq ?_
                          refine W_region ?_
                          refine WL_q rfl (ev_loads st31 sz31 rfl (cellsB hB16) rfl) ?_
                          refine WL_q rfl (ev_move rfl) ?_
                          refine WL_m rfl (ev_call rfl (markNetwork_spec _ D _ _ hF66 (by omega) (by omega) (by omega))) ?_
                          rintro _ w122 ⟨r122, rfl, hr122, hK122⟩
                          have hz122 := hK122.size
                          replace hE := hE.mrk hK122 (by omega)
                          replace hA := hA.mrk hK122 (by omega)
                          replace hB := hB.mrk hK122 (by omega)
                          replace hD := hD.mrk hK122 (by omega)
                          replace hff := hff.mrk hK122 (by omega)
                          replace hgg := hgg.mrk hK122 (by omega)
                          replace hB5 := hB5.mrk hK122 (by omega)
                          replace hB6 := hB6.mrk hK122 (by omega)
                          replace hB7 := hB7.mrk hK122 (by omega)
                          replace hB12 := hB12.mrk hK122 (by omega)
                          replace hN58 := hN58.mrk hK122 (by omega)
                          replace hB14 := hB14.mrk hK122 (by omega)
                          replace hB15 := hB15.mrk hK122 (by omega)
                          replace hB16 := hB16.mrk hK122 (by omega)
                          replace hF68 := hF68.mrk hK122 (by omega)
                          replace hI68 := hI68.mrk hK122 (by omega)
                          replace hF70 := hF70.mrk hK122 (by omega)
                          replace hI70 := hI70.mrk hK122 (by omega)
                          replace hO77 := hO77.mrk hK122 (by omega)
                          replace hB19 := hB19.mrk hK122 (by omega)
                          replace hF91 := hF91.mrk hK122 (by omega)
                          replace hN91 := hN91.mrk hK122 (by omega)
                          replace hF96 := hF96.mrk hK122 (by omega)
                          replace hN96 := hN96.mrk hK122 (by omega)
                          replace hF101 := hF101.mrk hK122 (by omega)
                          replace hN101 := hN101.mrk hK122 (by omega)
                          replace hF106 := hF106.mrk hK122 (by omega)
                          replace hI106 := hI106.mrk hK122 (by omega)
                          replace hF111 := hF111.mrk hK122 (by omega)
                          replace hI111 := hI111.mrk hK122 (by omega)
                          refine WL_q rfl (ev_assign rfl) ?_
                          refine WL_nil ?_
                          refine thenE_n ?_
                          refine W_seq ?_
                          refine W_region ?_
                          refine WL_q rfl (ev_move rfl) ?_
                          refine WL_q rfl (ev_move rfl) ?_
                          refine WL_m rfl (ev_call rfl (markIntS_arg hF68 (by omega) (by omega))) ?_
                          rintro _ w125 ⟨rfl, hK125⟩
                          have hz125 := hK125.size
                          replace hE := hE.mrk hK125 (by omega)
                          replace hA := hA.mrk hK125 (by omega)
                          replace hB := hB.mrk hK125 (by omega)
                          replace hD := hD.mrk hK125 (by omega)
                          replace hff := hff.mrk hK125 (by omega)
                          replace hgg := hgg.mrk hK125 (by omega)
                          replace hB5 := hB5.mrk hK125 (by omega)
                          replace hB6 := hB6.mrk hK125 (by omega)
                          replace hB7 := hB7.mrk hK125 (by omega)
                          replace hB12 := hB12.mrk hK125 (by omega)
                          replace hN58 := hN58.mrk hK125 (by omega)
                          replace hB14 := hB14.mrk hK125 (by omega)
                          replace hB15 := hB15.mrk hK125 (by omega)
                          replace hB16 := hB16.mrk hK125 (by omega)
                          replace hF70 := hF70.mrk hK125 (by omega)
                          replace hI70 := hI70.mrk hK125 (by omega)
                          replace hO77 := hO77.mrk hK125 (by omega)
                          replace hB19 := hB19.mrk hK125 (by omega)
                          replace hF91 := hF91.mrk hK125 (by omega)
                          replace hN91 := hN91.mrk hK125 (by omega)
                          replace hF96 := hF96.mrk hK125 (by omega)
                          replace hN96 := hN96.mrk hK125 (by omega)
                          replace hF101 := hF101.mrk hK125 (by omega)
                          replace hN101 := hN101.mrk hK125 (by omega)
                          replace hF106 := hF106.mrk hK125 (by omega)
                          replace hI106 := hI106.mrk hK125 (by omega)
                          replace hF111 := hF111.mrk hK125 (by omega)
                          replace hI111 := hI111.mrk hK125 (by omega)
                          refine WL_q rfl (ev_assign rfl) ?_
                          refine WL_nil ?_
                          refine thenE_n ?_
                          refine W_seq ?_
                          refine W_region ?_
                          refine WL_q rfl (ev_move rfl) ?_
                          refine WL_q rfl (ev_move rfl) ?_
                          refine WL_m rfl (ev_call rfl (markIntS_arg hF70 (by omega) (by omega))) ?_
                          rintro _ w128 ⟨rfl, hK128⟩
                          have hz128 := hK128.size
                          replace hE := hE.mrk hK128 (by omega)
                          replace hA := hA.mrk hK128 (by omega)
                          replace hB := hB.mrk hK128 (by omega)
                          replace hD := hD.mrk hK128 (by omega)
                          replace hff := hff.mrk hK128 (by omega)
                          replace hgg := hgg.mrk hK128 (by omega)
                          replace hB5 := hB5.mrk hK128 (by omega)
                          replace hB6 := hB6.mrk hK128 (by omega)
                          replace hB7 := hB7.mrk hK128 (by omega)
                          replace hB12 := hB12.mrk hK128 (by omega)
                          replace hN58 := hN58.mrk hK128 (by omega)
                          replace hB14 := hB14.mrk hK128 (by omega)
                          replace hB15 := hB15.mrk hK128 (by omega)
                          replace hB16 := hB16.mrk hK128 (by omega)
                          replace hO77 := hO77.mrk hK128 (by omega)
                          replace hB19 := hB19.mrk hK128 (by omega)
                          replace hF91 := hF91.mrk hK128 (by omega)
                          replace hN91 := hN91.mrk hK128 (by omega)
                          replace hF96 := hF96.mrk hK128 (by omega)
                          replace hN96 := hN96.mrk hK128 (by omega)
                          replace hF101 := hF101.mrk hK128 (by omega)
                          replace hN101 := hN101.mrk hK128 (by omega)
                          replace hF106 := hF106.mrk hK128 (by omega)
                          replace hI106 := hI106.mrk hK128 (by omega)
                          replace hF111 := hF111.mrk hK128 (by omega)
                          replace hI111 := hI111.mrk hK128 (by omega)
                          refine WL_q rfl (ev_assign rfl) ?_
                          refine WL_nil ?_
                          refine thenE_n ?_
                          refine W_seq ?_
                          refine W_seq ?_
                          refine W_region ?_
                          refine WL_q rfl (ev_move rfl) ?_
                          refine WL_q rfl (ev_lss rfl rfl) ?_
                          refine WL_q rfl (ev_move rfl) ?_
                          refine WL_splitv (t := 131) rfl (fun hg130 => ?_) (fun hg130 => ?_)
                          · have hp130 := of_decide_eq_true hg130
                            refine WL_no rfl rfl hg130 rfl ?_
                            refine WL_no rfl rfl hg130 rfl ?_
                            refine WL_no rfl rfl hg130 rfl ?_
                            refine WL_no rfl rfl hg130 rfl ?_
                            refine WL_q rfl (ev_pick_t rfl hg130 rfl) ?_
                            refine WL_q rfl (ev_move rfl) ?_
                            refine WL_no rfl rfl rfl rfl ?_
                            refine WL_no rfl rfl rfl rfl ?_
                            refine WL_no rfl rfl rfl rfl ?_
                            refine WL_q rfl (ev_pick_t rfl rfl rfl) ?_
                            refine WL_nil ?_
                            refine thenE_n ?_
                            refine W_cond_t rfl ?_
                            refine W_seq ?_
                            refine W_region ?_
                            refine WL_q rfl (ev_assign rfl) ?_
                            refine WL_nil ?_
                            refine thenE_n ?_
                            refine W_ret ?_
                            refine thenE_r ?_
                            refine ret1 rfl rfl ?_
                            first | (exact ⟨rfl, hE⟩) | (exact (bneE hg130 (hr77.det1 hr58)).elim) | (exact absurd (hr77.det1 hr58) hp130) | (exact absurd (hr77.det1 hr58) (of_decide_eq_false hg130)) | (exact (bneE hg130 (hr77.det2 hr58)).elim) | (exact absurd (hr77.det2 hr58) hp130) | (exact absurd (hr77.det2 hr58) (of_decide_eq_false hg130)) | (exact (bneE hg130 (hr77.det3 hr58)).elim) | (exact absurd (hr77.det3 hr58) hp130) | (exact absurd (hr77.det3 hr58) (of_decide_eq_false hg130)) | (exact (tfX hg130).elim) | (exact (decF hg130).elim) | (exfalso; omega)
                          · have hp130 := of_decide_eq_false hg130
                            refine WL_qg rfl rfl hg130 rfl (ev_loads st31 sz31 rfl (cellsB hB19) rfl) ?_
                            refine WL_qg rfl rfl hg130 rfl (ev_loads st31 sz31 rfl (cellsB hB12) rfl) ?_
                            refine WL_mg rfl rfl hg130 rfl (ev_call rfl (eqNetwork_spec _ _ U58 _ hO77.is hN58 (by omega))) ?_
                            rintro _ w134 ⟨rfl, hE134⟩
                            have hz134 := hE134.size
                            replace hE := hE.trans hE134
                            replace hA := hA.ext hE134
                            replace hB := hB.ext hE134
                            replace hD := hD.ext hE134
                            replace hff := hff.ext hE134
                            replace hgg := hgg.ext hE134
                            replace hB5 := hB5.ext hE134
                            replace hB6 := hB6.ext hE134
                            replace hB7 := hB7.ext hE134
                            replace hB12 := hB12.ext hE134
                            replace hN58 := hN58.ext hE134
                            replace hB14 := hB14.ext hE134
                            replace hB15 := hB15.ext hE134
                            replace hB16 := hB16.ext hE134
                            replace hO77 := hO77.ext hE134
                            replace hB19 := hB19.ext hE134
                            replace hF91 := hF91.ext hE134
                            replace hN91 := hN91.ext hE134
                            replace hF96 := hF96.ext hE134
                            replace hN96 := hN96.ext hE134
                            replace hF101 := hF101.ext hE134
                            replace hN101 := hN101.ext hE134
                            replace hF106 := hF106.ext hE134
                            replace hI106 := hI106.ext hE134
                            replace hF111 := hF111.ext hE134
                            replace hI111 := hI111.ext hE134
                            refine WL_qg rfl rfl hg130 rfl (ev_not rfl) ?_
                            refine WL_q rfl (ev_pick_f rfl hg130 rfl) ?_
                            refine WL_q rfl (ev_move rfl) ?_
                            refine WL_splitv (t := 137) rfl (fun hg135 => ?_) (fun hg135 => ?_)
                            · have hg134 := not_true hg135
                              refine WL_no rfl rfl hg135 rfl ?_
                              refine WL_no rfl rfl hg135 rfl ?_
                              refine WL_no rfl rfl hg135 rfl ?_
                              refine WL_q rfl (ev_pick_t rfl hg135 rfl) ?_
                              refine WL_nil ?_
                              refine thenE_n ?_
                              refine W_cond_t rfl ?_
                              refine W_seq ?_
                              refine W_region ?_
                              refine WL_q rfl (ev_assign rfl) ?_
                              refine WL_nil ?_
                              refine thenE_n ?_
                              refine W_ret ?_
                              refine thenE_r ?_
                              refine ret1 rfl rfl ?_
                              first | (exact ⟨rfl, hE⟩) | (exact (bneE hg134 (hr77.det1 hr58)).elim) | (exact absurd (hr77.det1 hr58) hp134) | (exact absurd (hr77.det1 hr58) (of_decide_eq_false hg134)) | (exact (bneE hg134 (hr77.det2 hr58)).elim) | (exact absurd (hr77.det2 hr58) hp134) | (exact absurd (hr77.det2 hr58) (of_decide_eq_false hg134)) | (exact (bneE hg134 (hr77.det3 hr58)).elim) | (exact absurd (hr77.det3 hr58) hp134) | (exact absurd (hr77.det3 hr58) (of_decide_eq_false hg134)) | (exact (tfX hg134).elim) | (exact (decF hg134).elim) | (exfalso; omega)
                            · have hg134 := not_false hg135
                              refine WL_qg rfl rfl hg135 rfl (ev_move rfl) ?_
                              refine WL_qg rfl rfl hg135 rfl (ev_move rfl) ?_
                              refine WL_qg rfl rfl hg135 rfl (ev_neq_b Try.underlying4 rfl rfl) ?_
                              refine WL_q rfl (ev_pick_f rfl hg135 rfl) ?_
                              refine WL_nil ?_
                              refine thenE_n ?_
                              refine W_cond rfl (fun hg140 => ?_) (fun hg140 => ?_)
                              · refine W_seq ?_
                                refine W_region ?_
                                refine WL_q rfl (ev_assign rfl) ?_
                                refine WL_nil ?_
                                refine thenE_n ?_
                                refine W_ret ?_
                                refine thenE_r ?_
                                refine ret1 rfl rfl ?_
                                first | (exact ⟨rfl, hE⟩) | (exact (bneE hg140 (hr77.det1 hr58)).elim) | (exact absurd (hr77.det1 hr58) hp140) | (exact absurd (hr77.det1 hr58) (of_decide_eq_false hg140)) | (exact (bneE hg140 (hr77.det2 hr58)).elim) | (exact absurd (hr77.det2 hr58) hp140) | (exact absurd (hr77.det2 hr58) (of_decide_eq_false hg140)) | (exact (bneE hg140 (hr77.det3 hr58)).elim) | (exact absurd (hr77.det3 hr58) hp140) | (exact absurd (hr77.det3 hr58) (of_decide_eq_false hg140)) | (exact (tfX hg140).elim) | (exact (decF hg140).elim) | (exfalso; omega)
                              · refine W_skip ?_
                                refine thenE_n ?_
                                refine W_seq ?_
                                refine W_region ?_
                                refine WL_q rfl (ev_assign rfl) ?_
                                refine WL_nil ?_
                                refine thenE_n ?_
                                refine W_seq ?_
                                refine W_region ?_
                                refine WL_q rfl (ev_loads st31 sz31 rfl (cellsB hB19) rfl) ?_
                                refine WL_q rfl (ev_move rfl) ?_
                                refine WL_m rfl (ev_call rfl (markNetwork_net _ U58 _ _ hO77 (by omega) (by omega) (by omega))) ?_
                                rintro _ w144 ⟨rfl, hO144, hK144⟩
                                have hz144 := hK144.size
                                have hR144 := hK144
                                replace hE := hE.rg hR144 (by omega)
                                replace hA := hA.rg hR144 (by omega)
                                replace hB := hB.rg hR144 (by omega)
                                replace hD := hD.rg hR144 (by omega)
                                replace hff := hff.rg hR144 (by omega)
                                replace hgg := hgg.rg hR144 (by omega)
                                replace hB5 := hB5.rg hR144 (by omega)
                                replace hB6 := hB6.rg hR144 (by omega)
                                replace hB7 := hB7.rg hR144 (by omega)
                                replace hB12 := hB12.rg hR144 (by omega)
                                replace hN58 := hN58.rg hR144 (by omega)
                                replace hB14 := hB14.rg hR144 (by omega)
                                replace hB15 := hB15.rg hR144 (by omega)
                                replace hB16 := hB16.rg hR144 (by omega)
                                replace hB19 := hB19.rg hR144 (by omega)
                                replace hF91 := hF91.rg hR144 (by omega)
                                replace hN91 := hN91.rg hR144 (by omega)
                                replace hF96 := hF96.rg hR144 (by omega)
                                replace hN96 := hN96.rg hR144 (by omega)
                                replace hF101 := hF101.rg hR144 (by omega)
                                replace hN101 := hN101.rg hR144 (by omega)
                                replace hF106 := hF106.rg hR144 (by omega)
                                replace hI106 := hI106.rg hR144 (by omega)
                                replace hF111 := hF111.rg hR144 (by omega)
                                replace hI111 := hI111.rg hR144 (by omega)
                                replace hO77 := hO144
                                have hmk : 1 ≤ mkT 1 U58 := by unfold mkT; omega
                                refine WL_q rfl (ev_assign rfl) ?_
                                refine WL_nil ?_
                                refine thenE_n ?_
                                refine W_seq ?_
                                refine W_region ?_
                                refine WL_q rfl (ev_assign rfl) ?_
                                refine WL_nil ?_
                                refine thenE_n ?_
                                refine W_seq ?_
                                refine W_region ?_
                                refine WL_q rfl (ev_loads st31 sz31 rfl (cellsB hB19) rfl) ?_
                                refine WL_q rfl (ev_move rfl) ?_
                                refine WL_m rfl (ev_call rfl (heldNetwork_net _ U58 _ _ hO77.is (by omega) (by omega))) ?_
                                rintro _ w147 ⟨rfl, hE147⟩
                                have hz147 := hE147.size
                                replace hE := hE.trans hE147
                                replace hA := hA.ext hE147
                                replace hB := hB.ext hE147
                                replace hD := hD.ext hE147
                                replace hff := hff.ext hE147
                                replace hgg := hgg.ext hE147
                                replace hB5 := hB5.ext hE147
                                replace hB6 := hB6.ext hE147
                                replace hB7 := hB7.ext hE147
                                replace hB12 := hB12.ext hE147
                                replace hN58 := hN58.ext hE147
                                replace hB14 := hB14.ext hE147
                                replace hB15 := hB15.ext hE147
                                replace hB16 := hB16.ext hE147
                                replace hO77 := hO77.ext hE147
                                replace hB19 := hB19.ext hE147
                                replace hF91 := hF91.ext hE147
                                replace hN91 := hN91.ext hE147
                                replace hF96 := hF96.ext hE147
                                replace hN96 := hN96.ext hE147
                                replace hF101 := hF101.ext hE147
                                replace hN101 := hN101.ext hE147
                                replace hF106 := hF106.ext hE147
                                replace hI106 := hI106.ext hE147
                                replace hF111 := hF111.ext hE147
                                replace hI111 := hI111.ext hE147
                                refine WL_q rfl (ev_assign rfl) ?_
                                refine WL_nil ?_
                                refine thenE_n ?_
                                refine W_seq ?_
                                refine W_seq ?_
                                refine W_region ?_
                                refine WL_q rfl (ev_move rfl) ?_
                                refine WL_q rfl (ev_lss rfl rfl) ?_
                                refine WL_nil ?_
                                refine thenE_n ?_
                                refine W_cond rfl (fun hg149 => ?_) (fun hg149 => ?_)
                                · have hp149 := of_decide_eq_true hg149
                                  refine W_seq ?_
                                  refine W_region ?_
                                  refine WL_q rfl (ev_assign rfl) ?_
                                  refine WL_nil ?_
                                  refine thenE_n ?_
                                  refine W_ret ?_
                                  refine thenE_r ?_
                                  refine ret1 rfl rfl ?_
                                  first | (exact ⟨rfl, hE⟩) | (exact (bneE hg149 (hr77.det1 hr58)).elim) | (exact absurd (hr77.det1 hr58) hp149) | (exact absurd (hr77.det1 hr58) (of_decide_eq_false hg149)) | (exact (bneE hg149 (hr77.det2 hr58)).elim) | (exact absurd (hr77.det2 hr58) hp149) | (exact absurd (hr77.det2 hr58) (of_decide_eq_false hg149)) | (exact (bneE hg149 (hr77.det3 hr58)).elim) | (exact absurd (hr77.det3 hr58) hp149) | (exact absurd (hr77.det3 hr58) (of_decide_eq_false hg149)) | (exact (tfX hg149).elim) | (exact (decF hg149).elim) | (exfalso; omega)
                                · have hp149 := of_decide_eq_false hg149
                                  refine W_skip ?_
                                  refine thenE_n ?_
                                  refine W_seq ?_
                                  refine W_seq ?_
                                  refine W_region ?_
                                  refine WL_q rfl (ev_move rfl) ?_
                                  refine WL_q rfl (ev_move rfl) ?_
                                  refine WL_q rfl (ev_neq rfl rfl) ?_
                                  refine WL_nil ?_
                                  refine thenE_n ?_
                                  refine W_cond rfl (fun hg152 => ?_) (fun hg152 => ?_)
                                  · have hp152 := of_decide_eq_true hg152
                                    refine W_seq ?_
                                    refine W_region ?_
                                    refine WL_q rfl (ev_assign rfl) ?_
                                    refine WL_nil ?_
                                    refine thenE_n ?_
                                    refine W_ret ?_
                                    refine thenE_r ?_
                                    refine ret1 rfl rfl ?_
                                    first | (exact ⟨rfl, hE⟩) | (exact (bneE hg152 (hr77.det1 hr58)).elim) | (exact absurd (hr77.det1 hr58) hp152) | (exact absurd (hr77.det1 hr58) (of_decide_eq_false hg152)) | (exact (bneE hg152 (hr77.det2 hr58)).elim) | (exact absurd (hr77.det2 hr58) hp152) | (exact absurd (hr77.det2 hr58) (of_decide_eq_false hg152)) | (exact (bneE hg152 (hr77.det3 hr58)).elim) | (exact absurd (hr77.det3 hr58) hp152) | (exact absurd (hr77.det3 hr58) (of_decide_eq_false hg152)) | (exact (tfX hg152).elim) | (exact (decF hg152).elim) | (exfalso; omega)
                                  · have hp152 := of_decide_eq_false hg152
                                    refine W_skip ?_
                                    refine thenE_n ?_
                                    refine W_seq ?_
                                    refine W_drawT (X := Nat × NA × Net × Bool) (fun x => [(24, ptr x.1 0), (25, VB x.2.2.2)]) (fun x w' => (w147.heap.size ≤ x.1 ∧ x.1 < w'.heap.size) ∧ Blk w' x.1 31 [.slice x.2.1.a1 x.2.2.1.ends.length x.2.1.c1, .slice x.2.1.a2 x.2.2.1.ids.length x.2.1.c2, .slice x.2.1.a3 x.2.2.1.inputs.length x.2.1.c3] ∧ RV (⟨[], [], []⟩ : Net) (opt (HF A B D ff gg ∧ 1 ≤ (PLf A B ff gg).length ∧ (PLf A B ff gg).length ≤ 40) (fibP A B ff gg)) x.2.2.1 x.2.2.2 ∧ OwnNet w147.heap.size w'.heap.size w' 61 3 x.2.1 x.2.2.1 ∧ totN x.2.2.1 ≤ 1048576 ∧ Ext w147 w') w147.heap.size (by omega) (.q 0 (.q 2 (.q 4 (.q 6 (.q 8 (.b 1 (.b 3 (.b 5 (.b 7 (.b 9 (.b 10 (.q 11 (.q 12 (.q 13 (.a 14 (.a 15 (.q 16 .done)))))) 14 (.a 10 (.q 11 (.q 12 (.q 13 (.a 15 (.q 16 .done))))))) 14 (.a 9 (.a 10 (.q 11 (.q 12 (.q 13 (.a 15 (.q 16 .done)))))))) 14 (.a 7 (.a 9 (.a 10 (.q 11 (.q 12 (.q 13 (.a 15 (.q 16 .done))))))))) 14 (.a 5 (.a 7 (.a 9 (.a 10 (.q 11 (.q 12 (.q 13 (.a 15 (.q 16 .done)))))))))) 14 (.a 3 (.a 5 (.a 7 (.a 9 (.a 10 (.q 11 (.q 12 (.q 13 (.a 15 (.q 16 .done))))))))))) 14 (.a 1 (.a 3 (.a 5 (.a 7 (.a 9 (.a 10 (.q 11 (.q 12 (.q 13 (.a 15 (.q 16 .done))))))))))))))))) mixed (by kernel_rfl) rfl (by kernel_rfl) ?_ ?_
                                    · have hT := Ext.refl w147
                                      intro wd50 hEd50 hzd50
                                      replace hE := hE.trans hEd50
                                      replace hT := hT.trans hEd50
                                      replace hA := hA.ext hEd50
                                      replace hB := hB.ext hEd50
                                      replace hD := hD.ext hEd50
                                      replace hff := hff.ext hEd50
                                      replace hgg := hgg.ext hEd50
                                      replace hB5 := hB5.ext hEd50
                                      replace hB6 := hB6.ext hEd50
                                      replace hB7 := hB7.ext hEd50
                                      have hDd50 := (Lo.refl (by omega) : Lo w147.heap.size wd50 wd50)
                                      refine PT_q rfl rfl (fun wq hq => ev_loads st25 sz25 rfl (cellsB (hB5.lo hq.1 (by omega))) rfl) ?_
                                      refine PT_q rfl rfl (fun wq hq => ev_loads st25 sz25 rfl (cellsB (hB6.lo hq.1 (by omega))) rfl) ?_
                                      refine PT_q rfl rfl (fun wq hq => ev_loads st25 sz25 rfl (cellsB (hB7.lo hq.1 (by omega))) rfl) ?_
                                      refine PT_q rfl rfl (fun wq hq => ev_move rfl) ?_
                                      refine PT_q rfl rfl (fun wq hq => ev_move rfl) ?_
                                      refine PT_b ?_ ?_
                                      · refine PA_m w147.heap.size rfl rfl (ev_call rfl (toNetwork_spec _ A _ hA (by omega) (by omega))) ?_
                                        rintro _ w155 ⟨h155, rfl, hF155, hE155⟩
                                        have hz155 := hE155.size
                                        replace hE := hE.trans hE155
                                        replace hT := hT.trans hE155
                                        replace hDd50 := hDd50.trans hE155
                                        replace hA := hA.ext hE155
                                        replace hB := hB.ext hE155
                                        replace hD := hD.ext hE155
                                        replace hff := hff.ext hE155
                                        replace hgg := hgg.ext hE155
                                        replace hB5 := hB5.ext hE155
                                        replace hB6 := hB6.ext hE155
                                        replace hB7 := hB7.ext hE155
                                        have hN155 := hF155.is
                                        refine ⟨by omega, fun _ hx => ⟨hDd50.lo hx (by omega), trivial⟩, ?_⟩
                                        have hDd50 := (Lo.refl (by omega) : Lo w147.heap.size w155 w155)
                                        refine PT_b ?_ ?_
                                        · refine PA_m w147.heap.size rfl rfl (ev_call rfl (toNetwork_spec _ B _ hB (by omega) (by omega))) ?_
                                          rintro _ w157 ⟨h157, rfl, hF157, hE157⟩
                                          have hz157 := hE157.size
                                          replace hE := hE.trans hE157
                                          replace hT := hT.trans hE157
                                          replace hDd50 := hDd50.trans hE157
                                          replace hA := hA.ext hE157
                                          replace hB := hB.ext hE157
                                          replace hD := hD.ext hE157
                                          replace hff := hff.ext hE157
                                          replace hgg := hgg.ext hE157
                                          replace hB5 := hB5.ext hE157
                                          replace hB6 := hB6.ext hE157
                                          replace hB7 := hB7.ext hE157
                                          replace hF155 := hF155.ext hE157
                                          replace hN155 := hN155.ext hE157
                                          have hN157 := hF157.is
                                          refine ⟨by omega, fun _ hx => ⟨hDd50.lo hx (by omega), trivial⟩, ?_⟩
                                          have hDd50 := (Lo.refl (by omega) : Lo w147.heap.size w157 w157)
                                          refine PT_b ?_ ?_
                                          · refine PA_m w147.heap.size rfl rfl (ev_call rfl (toNetwork_spec _ D _ hD (by omega) (by omega))) ?_
                                            rintro _ w159 ⟨h159, rfl, hF159, hE159⟩
                                            have hz159 := hE159.size
                                            replace hE := hE.trans hE159
                                            replace hT := hT.trans hE159
                                            replace hDd50 := hDd50.trans hE159
                                            replace hA := hA.ext hE159
                                            replace hB := hB.ext hE159
                                            replace hD := hD.ext hE159
                                            replace hff := hff.ext hE159
                                            replace hgg := hgg.ext hE159
                                            replace hB5 := hB5.ext hE159
                                            replace hB6 := hB6.ext hE159
                                            replace hB7 := hB7.ext hE159
                                            replace hF155 := hF155.ext hE159
                                            replace hN155 := hN155.ext hE159
                                            replace hF157 := hF157.ext hE159
                                            replace hN157 := hN157.ext hE159
                                            have hN159 := hF159.is
                                            refine ⟨by omega, fun _ hx => ⟨hDd50.lo hx (by omega), trivial⟩, ?_⟩
                                            have hDd50 := (Lo.refl (by omega) : Lo w147.heap.size w159 w159)
                                            refine PT_b ?_ ?_
                                            · refine PA_m w147.heap.size rfl rfl (ev_call rfl (toIntS_spec _ _ ff _ hff (by omega) (by omega))) ?_
                                              rintro _ w161 ⟨a161, rfl, hF161, hE161⟩
                                              have hz161 := hE161.size
                                              replace hE := hE.trans hE161
                                              replace hT := hT.trans hE161
                                              replace hDd50 := hDd50.trans hE161
                                              replace hA := hA.ext hE161
                                              replace hB := hB.ext hE161
                                              replace hD := hD.ext hE161
                                              replace hff := hff.ext hE161
                                              replace hgg := hgg.ext hE161
                                              replace hB5 := hB5.ext hE161
                                              replace hB6 := hB6.ext hE161
                                              replace hB7 := hB7.ext hE161
                                              replace hF155 := hF155.ext hE161
                                              replace hN155 := hN155.ext hE161
                                              replace hF157 := hF157.ext hE161
                                              replace hN157 := hN157.ext hE161
                                              replace hF159 := hF159.ext hE161
                                              replace hN159 := hN159.ext hE161
                                              have hI161 := hF161.is
                                              refine ⟨by omega, fun _ hx => ⟨hDd50.lo hx (by omega), trivial⟩, ?_⟩
                                              have hDd50 := (Lo.refl (by omega) : Lo w147.heap.size w161 w161)
                                              refine PT_b ?_ ?_
                                              · refine PA_m w147.heap.size rfl rfl (ev_call rfl (toIntS_spec _ _ gg _ hgg (by omega) (by omega))) ?_
                                                rintro _ w163 ⟨a163, rfl, hF163, hE163⟩
                                                have hz163 := hE163.size
                                                replace hE := hE.trans hE163
                                                replace hT := hT.trans hE163
                                                replace hDd50 := hDd50.trans hE163
                                                replace hA := hA.ext hE163
                                                replace hB := hB.ext hE163
                                                replace hD := hD.ext hE163
                                                replace hff := hff.ext hE163
                                                replace hgg := hgg.ext hE163
                                                replace hB5 := hB5.ext hE163
                                                replace hB6 := hB6.ext hE163
                                                replace hB7 := hB7.ext hE163
                                                replace hF155 := hF155.ext hE163
                                                replace hN155 := hN155.ext hE163
                                                replace hF157 := hF157.ext hE163
                                                replace hN157 := hN157.ext hE163
                                                replace hF159 := hF159.ext hE163
                                                replace hN159 := hN159.ext hE163
                                                replace hF161 := hF161.ext hE163
                                                replace hI161 := hI161.ext hE163
                                                have hI163 := hF163.is
                                                refine ⟨by omega, fun _ hx => ⟨hDd50.lo hx (by omega), trivial⟩, ?_⟩
                                                have hDd50 := (Lo.refl (by omega) : Lo w147.heap.size w163 w163)
                                                refine PT_b ?_ ?_
                                                · refine PA_m w147.heap.size rfl rfl (ev_call rfl (FibreProduct_spec _ A _ B _ D _ _ ff _ _ gg _ hN155 (by omega) (by omega) hN157 (by omega) (by omega) hN159 (by omega) (by omega) hI161 (by omega) (by omega) hI163 (by omega) (by omega))) ?_
                                                  rintro _ w164 ⟨h164, U164, q164, rfl, hr164, hO164, hl164, hE164⟩
                                                  have hz164 := hE164.size
                                                  replace hE := hE.trans hE164
                                                  replace hT := hT.trans hE164
                                                  replace hDd50 := hDd50.trans hE164
                                                  replace hA := hA.ext hE164
                                                  replace hB := hB.ext hE164
                                                  replace hD := hD.ext hE164
                                                  replace hff := hff.ext hE164
                                                  replace hgg := hgg.ext hE164
                                                  replace hB5 := hB5.ext hE164
                                                  replace hB6 := hB6.ext hE164
                                                  replace hB7 := hB7.ext hE164
                                                  replace hF155 := hF155.ext hE164
                                                  replace hN155 := hN155.ext hE164
                                                  replace hF157 := hF157.ext hE164
                                                  replace hN157 := hN157.ext hE164
                                                  replace hF159 := hF159.ext hE164
                                                  replace hN159 := hN159.ext hE164
                                                  replace hF161 := hF161.ext hE164
                                                  replace hI161 := hI161.ext hE164
                                                  replace hF163 := hF163.ext hE164
                                                  replace hI163 := hI163.ext hE164
                                                  refine ⟨by omega, fun _ hx => ⟨hDd50.lo hx (by omega), trivial⟩, ?_⟩
                                                  have hDd50 := (Lo.refl (by omega) : Lo w147.heap.size w164 w164)
                                                  refine PT_q rfl rfl (fun wq hq => ev_move rfl) ?_
                                                  refine PT_q rfl rfl (fun wq hq => ev_extract rfl rfl) ?_
                                                  refine PT_q rfl rfl (fun wq hq => ev_extract rfl rfl) ?_
                                                  refine PT_a ?_
                                                  refine PA_m w147.heap.size rfl rfl (ev_alloc zr31) ?_
                                                  rintro _ w24 ⟨rfl, hN24⟩
                                                  have hz24 := hN24.size
                                                  replace hE := hE.trans hN24.ext
                                                  replace hT := hT.trans hN24.ext
                                                  replace hDd50 := hDd50.trans hN24.ext
                                                  replace hA := hA.ext hN24.ext
                                                  replace hB := hB.ext hN24.ext
                                                  replace hD := hD.ext hN24.ext
                                                  replace hff := hff.ext hN24.ext
                                                  replace hgg := hgg.ext hN24.ext
                                                  replace hB5 := hB5.ext hN24.ext
                                                  replace hB6 := hB6.ext hN24.ext
                                                  replace hB7 := hB7.ext hN24.ext
                                                  replace hF155 := hF155.ext hN24.ext
                                                  replace hN155 := hN155.ext hN24.ext
                                                  replace hF157 := hF157.ext hN24.ext
                                                  replace hN157 := hN157.ext hN24.ext
                                                  replace hF159 := hF159.ext hN24.ext
                                                  replace hN159 := hN159.ext hN24.ext
                                                  replace hF161 := hF161.ext hN24.ext
                                                  replace hI161 := hI161.ext hN24.ext
                                                  replace hF163 := hF163.ext hN24.ext
                                                  replace hI163 := hI163.ext hN24.ext
                                                  replace hO164 := hO164.ext hN24.ext
                                                  have hB24 : Blk w24 _ _ [_, _, _] := hN24.blk
                                                  refine ⟨by omega, fun _ hx => ⟨hDd50.lo hx (by omega), trivial⟩, ?_⟩
                                                  have hDd50 := (Lo.refl (by omega) : Lo w147.heap.size w24 w24)
                                                  refine PT_a ?_
                                                  refine PA_s w147.heap.size rfl (ev_stores sz31 rfl rfl rfl (by simp [Value.oneCell']) hB24 (by simp)) ?_
                                                  rintro _ w50_15 hS50_15
                                                  have hz50_15 := hS50_15.size
                                                  replace hE := hE.sto hS50_15 (by omega)
                                                  replace hT := hT.sto hS50_15 (by omega)
                                                  replace hDd50 := hDd50.sto hS50_15 (by omega)
                                                  replace hA := hA.sto hS50_15 (by omega)
                                                  replace hB := hB.sto hS50_15 (by omega)
                                                  replace hD := hD.sto hS50_15 (by omega)
                                                  replace hff := hff.sto hS50_15 (by omega)
                                                  replace hgg := hgg.sto hS50_15 (by omega)
                                                  replace hB5 := hB5.sto hS50_15 (by omega)
                                                  replace hB6 := hB6.sto hS50_15 (by omega)
                                                  replace hB7 := hB7.sto hS50_15 (by omega)
                                                  replace hF155 := hF155.sto hS50_15 (by omega)
                                                  replace hN155 := hN155.sto hS50_15 (by omega)
                                                  replace hF157 := hF157.sto hS50_15 (by omega)
                                                  replace hN157 := hN157.sto hS50_15 (by omega)
                                                  replace hF159 := hF159.sto hS50_15 (by omega)
                                                  replace hN159 := hN159.sto hS50_15 (by omega)
                                                  replace hF161 := hF161.sto hS50_15 (by omega)
                                                  replace hI161 := hI161.sto hS50_15 (by omega)
                                                  replace hF163 := hF163.sto hS50_15 (by omega)
                                                  replace hI163 := hI163.sto hS50_15 (by omega)
                                                  replace hO164 := hO164.sto hS50_15 (by omega)
                                                  replace hB24 : Blk w50_15 _ _ [_, _, _] := hS50_15.blk
                                                  refine ⟨by omega, fun _ hx => ⟨hDd50.lo hx (by omega), trivial⟩, ?_⟩
                                                  have hDd50 := (Lo.refl (by omega) : Lo w147.heap.size w50_15 w50_15)
                                                  refine PT_q rfl rfl (fun wq hq => ev_assign rfl) ?_
                                                  exact PT_nil 16 ⟨hB24.num, h164, U164, q164⟩ rfl ⟨rfl, rfl, trivial⟩ rfl ⟨⟨(by (try dsimp only [Blk.num]); omega), (by (try dsimp only [Blk.num]); omega)⟩, hB24, hr164, hO164.up (by (try dsimp only [Blk.num]); omega) (by (try dsimp only [Blk.num]); omega), hl164, hT⟩
                                                · refine PA_m w147.heap.size rfl rfl (ev_alloc zr31) ?_
                                                  rintro _ w24 ⟨rfl, hN24⟩
                                                  have hz24 := hN24.size
                                                  replace hE := hE.trans hN24.ext
                                                  replace hT := hT.trans hN24.ext
                                                  replace hDd50 := hDd50.trans hN24.ext
                                                  replace hA := hA.ext hN24.ext
                                                  replace hB := hB.ext hN24.ext
                                                  replace hD := hD.ext hN24.ext
                                                  replace hff := hff.ext hN24.ext
                                                  replace hgg := hgg.ext hN24.ext
                                                  replace hB5 := hB5.ext hN24.ext
                                                  replace hB6 := hB6.ext hN24.ext
                                                  replace hB7 := hB7.ext hN24.ext
                                                  replace hF155 := hF155.ext hN24.ext
                                                  replace hN155 := hN155.ext hN24.ext
                                                  replace hF157 := hF157.ext hN24.ext
                                                  replace hN157 := hN157.ext hN24.ext
                                                  replace hF159 := hF159.ext hN24.ext
                                                  replace hN159 := hN159.ext hN24.ext
                                                  replace hF161 := hF161.ext hN24.ext
                                                  replace hI161 := hI161.ext hN24.ext
                                                  replace hF163 := hF163.ext hN24.ext
                                                  replace hI163 := hI163.ext hN24.ext
                                                  have hB24 : Blk w24 _ _ [_, _, _] := hN24.blk
                                                  refine ⟨by omega, fun _ hx => ⟨hDd50.lo hx (by omega), trivial⟩, ?_⟩
                                                  have hDd50 := (Lo.refl (by omega) : Lo w147.heap.size w24 w24)
                                                  refine PT_a ?_
                                                  refine PA_m w147.heap.size rfl rfl (ev_call rfl (FibreProduct_spec _ A _ B _ D _ _ ff _ _ gg _ hN155 (by omega) (by omega) hN157 (by omega) (by omega) hN159 (by omega) (by omega) hI161 (by omega) (by omega) hI163 (by omega) (by omega))) ?_
                                                  rintro _ w164 ⟨h164, U164, q164, rfl, hr164, hO164, hl164, hE164⟩
                                                  have hz164 := hE164.size
                                                  replace hE := hE.trans hE164
                                                  replace hT := hT.trans hE164
                                                  replace hDd50 := hDd50.trans hE164
                                                  replace hA := hA.ext hE164
                                                  replace hB := hB.ext hE164
                                                  replace hD := hD.ext hE164
                                                  replace hff := hff.ext hE164
                                                  replace hgg := hgg.ext hE164
                                                  replace hB5 := hB5.ext hE164
                                                  replace hB6 := hB6.ext hE164
                                                  replace hB7 := hB7.ext hE164
                                                  replace hF155 := hF155.ext hE164
                                                  replace hN155 := hN155.ext hE164
                                                  replace hF157 := hF157.ext hE164
                                                  replace hN157 := hN157.ext hE164
                                                  replace hF159 := hF159.ext hE164
                                                  replace hN159 := hN159.ext hE164
                                                  replace hF161 := hF161.ext hE164
                                                  replace hI161 := hI161.ext hE164
                                                  replace hF163 := hF163.ext hE164
                                                  replace hI163 := hI163.ext hE164
                                                  replace hB24 := hB24.ext hE164
                                                  refine ⟨by omega, fun _ hx => ⟨hDd50.lo hx (by omega), trivial⟩, ?_⟩
                                                  have hDd50 := (Lo.refl (by omega) : Lo w147.heap.size w164 w164)
                                                  refine PT_q rfl rfl (fun wq hq => ev_move rfl) ?_
                                                  refine PT_q rfl rfl (fun wq hq => ev_extract rfl rfl) ?_
                                                  refine PT_q rfl rfl (fun wq hq => ev_extract rfl rfl) ?_
                                                  refine PT_a ?_
                                                  refine PA_s w147.heap.size rfl (ev_stores sz31 rfl rfl rfl (by simp [Value.oneCell']) hB24 (by simp)) ?_
                                                  rintro _ w50_15 hS50_15
                                                  have hz50_15 := hS50_15.size
                                                  replace hE := hE.sto hS50_15 (by omega)
                                                  replace hT := hT.sto hS50_15 (by omega)
                                                  replace hDd50 := hDd50.sto hS50_15 (by omega)
                                                  replace hA := hA.sto hS50_15 (by omega)
                                                  replace hB := hB.sto hS50_15 (by omega)
                                                  replace hD := hD.sto hS50_15 (by omega)
                                                  replace hff := hff.sto hS50_15 (by omega)
                                                  replace hgg := hgg.sto hS50_15 (by omega)
                                                  replace hB5 := hB5.sto hS50_15 (by omega)
                                                  replace hB6 := hB6.sto hS50_15 (by omega)
                                                  replace hB7 := hB7.sto hS50_15 (by omega)
                                                  replace hF155 := hF155.sto hS50_15 (by omega)
                                                  replace hN155 := hN155.sto hS50_15 (by omega)
                                                  replace hF157 := hF157.sto hS50_15 (by omega)
                                                  replace hN157 := hN157.sto hS50_15 (by omega)
                                                  replace hF159 := hF159.sto hS50_15 (by omega)
                                                  replace hN159 := hN159.sto hS50_15 (by omega)
                                                  replace hF161 := hF161.sto hS50_15 (by omega)
                                                  replace hI161 := hI161.sto hS50_15 (by omega)
                                                  replace hF163 := hF163.sto hS50_15 (by omega)
                                                  replace hI163 := hI163.sto hS50_15 (by omega)
                                                  replace hO164 := hO164.sto hS50_15 (by omega)
                                                  replace hB24 : Blk w50_15 _ _ [_, _, _] := hS50_15.blk
                                                  refine ⟨by omega, fun _ hx => ⟨hDd50.lo hx (by omega), trivial⟩, ?_⟩
                                                  have hDd50 := (Lo.refl (by omega) : Lo w147.heap.size w50_15 w50_15)
                                                  refine PT_q rfl rfl (fun wq hq => ev_assign rfl) ?_
                                                  exact PT_nil 16 ⟨hB24.num, h164, U164, q164⟩ rfl ⟨rfl, rfl, trivial⟩ rfl ⟨⟨(by (try dsimp only [Blk.num]); omega), (by (try dsimp only [Blk.num]); omega)⟩, hB24, hr164, hO164.up (by (try dsimp only [Blk.num]); omega) (by (try dsimp only [Blk.num]); omega), hl164, hT⟩
                                              · refine PA_m w147.heap.size rfl rfl (ev_alloc zr31) ?_
                                                rintro _ w24 ⟨rfl, hN24⟩
                                                have hz24 := hN24.size
                                                replace hE := hE.trans hN24.ext
                                                replace hT := hT.trans hN24.ext
                                                replace hDd50 := hDd50.trans hN24.ext
                                                replace hA := hA.ext hN24.ext
                                                replace hB := hB.ext hN24.ext
                                                replace hD := hD.ext hN24.ext
                                                replace hff := hff.ext hN24.ext
                                                replace hgg := hgg.ext hN24.ext
                                                replace hB5 := hB5.ext hN24.ext
                                                replace hB6 := hB6.ext hN24.ext
                                                replace hB7 := hB7.ext hN24.ext
                                                replace hF155 := hF155.ext hN24.ext
                                                replace hN155 := hN155.ext hN24.ext
                                                replace hF157 := hF157.ext hN24.ext
                                                replace hN157 := hN157.ext hN24.ext
                                                replace hF159 := hF159.ext hN24.ext
                                                replace hN159 := hN159.ext hN24.ext
                                                replace hF161 := hF161.ext hN24.ext
                                                replace hI161 := hI161.ext hN24.ext
                                                have hB24 : Blk w24 _ _ [_, _, _] := hN24.blk
                                                refine ⟨by omega, fun _ hx => ⟨hDd50.lo hx (by omega), trivial⟩, ?_⟩
                                                have hDd50 := (Lo.refl (by omega) : Lo w147.heap.size w24 w24)
                                                refine PT_a ?_
                                                refine PA_m w147.heap.size rfl rfl (ev_call rfl (toIntS_spec _ _ gg _ hgg (by omega) (by omega))) ?_
                                                rintro _ w163 ⟨a163, rfl, hF163, hE163⟩
                                                have hz163 := hE163.size
                                                replace hE := hE.trans hE163
                                                replace hT := hT.trans hE163
                                                replace hDd50 := hDd50.trans hE163
                                                replace hA := hA.ext hE163
                                                replace hB := hB.ext hE163
                                                replace hD := hD.ext hE163
                                                replace hff := hff.ext hE163
                                                replace hgg := hgg.ext hE163
                                                replace hB5 := hB5.ext hE163
                                                replace hB6 := hB6.ext hE163
                                                replace hB7 := hB7.ext hE163
                                                replace hF155 := hF155.ext hE163
                                                replace hN155 := hN155.ext hE163
                                                replace hF157 := hF157.ext hE163
                                                replace hN157 := hN157.ext hE163
                                                replace hF159 := hF159.ext hE163
                                                replace hN159 := hN159.ext hE163
                                                replace hF161 := hF161.ext hE163
                                                replace hI161 := hI161.ext hE163
                                                replace hB24 := hB24.ext hE163
                                                have hI163 := hF163.is
                                                refine ⟨by omega, fun _ hx => ⟨hDd50.lo hx (by omega), trivial⟩, ?_⟩
                                                have hDd50 := (Lo.refl (by omega) : Lo w147.heap.size w163 w163)
                                                refine PT_a ?_
                                                refine PA_m w147.heap.size rfl rfl (ev_call rfl (FibreProduct_spec _ A _ B _ D _ _ ff _ _ gg _ hN155 (by omega) (by omega) hN157 (by omega) (by omega) hN159 (by omega) (by omega) hI161 (by omega) (by omega) hI163 (by omega) (by omega))) ?_
                                                rintro _ w164 ⟨h164, U164, q164, rfl, hr164, hO164, hl164, hE164⟩
                                                have hz164 := hE164.size
                                                replace hE := hE.trans hE164
                                                replace hT := hT.trans hE164
                                                replace hDd50 := hDd50.trans hE164
                                                replace hA := hA.ext hE164
                                                replace hB := hB.ext hE164
                                                replace hD := hD.ext hE164
                                                replace hff := hff.ext hE164
                                                replace hgg := hgg.ext hE164
                                                replace hB5 := hB5.ext hE164
                                                replace hB6 := hB6.ext hE164
                                                replace hB7 := hB7.ext hE164
                                                replace hF155 := hF155.ext hE164
                                                replace hN155 := hN155.ext hE164
                                                replace hF157 := hF157.ext hE164
                                                replace hN157 := hN157.ext hE164
                                                replace hF159 := hF159.ext hE164
                                                replace hN159 := hN159.ext hE164
                                                replace hF161 := hF161.ext hE164
                                                replace hI161 := hI161.ext hE164
                                                replace hB24 := hB24.ext hE164
                                                replace hF163 := hF163.ext hE164
                                                replace hI163 := hI163.ext hE164
                                                refine ⟨by omega, fun _ hx => ⟨hDd50.lo hx (by omega), trivial⟩, ?_⟩
                                                have hDd50 := (Lo.refl (by omega) : Lo w147.heap.size w164 w164)
                                                refine PT_q rfl rfl (fun wq hq => ev_move rfl) ?_
                                                refine PT_q rfl rfl (fun wq hq => ev_extract rfl rfl) ?_
                                                refine PT_q rfl rfl (fun wq hq => ev_extract rfl rfl) ?_
                                                refine PT_a ?_
                                                refine PA_s w147.heap.size rfl (ev_stores sz31 rfl rfl rfl (by simp [Value.oneCell']) hB24 (by simp)) ?_
                                                rintro _ w50_15 hS50_15
                                                have hz50_15 := hS50_15.size
                                                replace hE := hE.sto hS50_15 (by omega)
                                                replace hT := hT.sto hS50_15 (by omega)
                                                replace hDd50 := hDd50.sto hS50_15 (by omega)
                                                replace hA := hA.sto hS50_15 (by omega)
                                                replace hB := hB.sto hS50_15 (by omega)
                                                replace hD := hD.sto hS50_15 (by omega)
                                                replace hff := hff.sto hS50_15 (by omega)
                                                replace hgg := hgg.sto hS50_15 (by omega)
                                                replace hB5 := hB5.sto hS50_15 (by omega)
                                                replace hB6 := hB6.sto hS50_15 (by omega)
                                                replace hB7 := hB7.sto hS50_15 (by omega)
                                                replace hF155 := hF155.sto hS50_15 (by omega)
                                                replace hN155 := hN155.sto hS50_15 (by omega)
                                                replace hF157 := hF157.sto hS50_15 (by omega)
                                                replace hN157 := hN157.sto hS50_15 (by omega)
                                                replace hF159 := hF159.sto hS50_15 (by omega)
                                                replace hN159 := hN159.sto hS50_15 (by omega)
                                                replace hF161 := hF161.sto hS50_15 (by omega)
                                                replace hI161 := hI161.sto hS50_15 (by omega)
                                                replace hF163 := hF163.sto hS50_15 (by omega)
                                                replace hI163 := hI163.sto hS50_15 (by omega)
                                                replace hO164 := hO164.sto hS50_15 (by omega)
                                                replace hB24 : Blk w50_15 _ _ [_, _, _] := hS50_15.blk
                                                refine ⟨by omega, fun _ hx => ⟨hDd50.lo hx (by omega), trivial⟩, ?_⟩
                                                have hDd50 := (Lo.refl (by omega) : Lo w147.heap.size w50_15 w50_15)
                                                refine PT_q rfl rfl (fun wq hq => ev_assign rfl) ?_
                                                exact PT_nil 16 ⟨hB24.num, h164, U164, q164⟩ rfl ⟨rfl, rfl, trivial⟩ rfl ⟨⟨(by (try dsimp only [Blk.num]); omega), (by (try dsimp only [Blk.num]); omega)⟩, hB24, hr164, hO164.up (by (try dsimp only [Blk.num]); omega) (by (try dsimp only [Blk.num]); omega), hl164, hT⟩
                                            · refine PA_m w147.heap.size rfl rfl (ev_alloc zr31) ?_
                                              rintro _ w24 ⟨rfl, hN24⟩
                                              have hz24 := hN24.size
                                              replace hE := hE.trans hN24.ext
                                              replace hT := hT.trans hN24.ext
                                              replace hDd50 := hDd50.trans hN24.ext
                                              replace hA := hA.ext hN24.ext
                                              replace hB := hB.ext hN24.ext
                                              replace hD := hD.ext hN24.ext
                                              replace hff := hff.ext hN24.ext
                                              replace hgg := hgg.ext hN24.ext
                                              replace hB5 := hB5.ext hN24.ext
                                              replace hB6 := hB6.ext hN24.ext
                                              replace hB7 := hB7.ext hN24.ext
                                              replace hF155 := hF155.ext hN24.ext
                                              replace hN155 := hN155.ext hN24.ext
                                              replace hF157 := hF157.ext hN24.ext
                                              replace hN157 := hN157.ext hN24.ext
                                              replace hF159 := hF159.ext hN24.ext
                                              replace hN159 := hN159.ext hN24.ext
                                              have hB24 : Blk w24 _ _ [_, _, _] := hN24.blk
                                              refine ⟨by omega, fun _ hx => ⟨hDd50.lo hx (by omega), trivial⟩, ?_⟩
                                              have hDd50 := (Lo.refl (by omega) : Lo w147.heap.size w24 w24)
                                              refine PT_a ?_
                                              refine PA_m w147.heap.size rfl rfl (ev_call rfl (toIntS_spec _ _ ff _ hff (by omega) (by omega))) ?_
                                              rintro _ w161 ⟨a161, rfl, hF161, hE161⟩
                                              have hz161 := hE161.size
                                              replace hE := hE.trans hE161
                                              replace hT := hT.trans hE161
                                              replace hDd50 := hDd50.trans hE161
                                              replace hA := hA.ext hE161
                                              replace hB := hB.ext hE161
                                              replace hD := hD.ext hE161
                                              replace hff := hff.ext hE161
                                              replace hgg := hgg.ext hE161
                                              replace hB5 := hB5.ext hE161
                                              replace hB6 := hB6.ext hE161
                                              replace hB7 := hB7.ext hE161
                                              replace hF155 := hF155.ext hE161
                                              replace hN155 := hN155.ext hE161
                                              replace hF157 := hF157.ext hE161
                                              replace hN157 := hN157.ext hE161
                                              replace hF159 := hF159.ext hE161
                                              replace hN159 := hN159.ext hE161
                                              replace hB24 := hB24.ext hE161
                                              have hI161 := hF161.is
                                              refine ⟨by omega, fun _ hx => ⟨hDd50.lo hx (by omega), trivial⟩, ?_⟩
                                              have hDd50 := (Lo.refl (by omega) : Lo w147.heap.size w161 w161)
                                              refine PT_a ?_
                                              refine PA_m w147.heap.size rfl rfl (ev_call rfl (toIntS_spec _ _ gg _ hgg (by omega) (by omega))) ?_
                                              rintro _ w163 ⟨a163, rfl, hF163, hE163⟩
                                              have hz163 := hE163.size
                                              replace hE := hE.trans hE163
                                              replace hT := hT.trans hE163
                                              replace hDd50 := hDd50.trans hE163
                                              replace hA := hA.ext hE163
                                              replace hB := hB.ext hE163
                                              replace hD := hD.ext hE163
                                              replace hff := hff.ext hE163
                                              replace hgg := hgg.ext hE163
                                              replace hB5 := hB5.ext hE163
                                              replace hB6 := hB6.ext hE163
                                              replace hB7 := hB7.ext hE163
                                              replace hF155 := hF155.ext hE163
                                              replace hN155 := hN155.ext hE163
                                              replace hF157 := hF157.ext hE163
                                              replace hN157 := hN157.ext hE163
                                              replace hF159 := hF159.ext hE163
                                              replace hN159 := hN159.ext hE163
                                              replace hB24 := hB24.ext hE163
                                              replace hF161 := hF161.ext hE163
                                              replace hI161 := hI161.ext hE163
                                              have hI163 := hF163.is
                                              refine ⟨by omega, fun _ hx => ⟨hDd50.lo hx (by omega), trivial⟩, ?_⟩
                                              have hDd50 := (Lo.refl (by omega) : Lo w147.heap.size w163 w163)
                                              refine PT_a ?_
                                              refine PA_m w147.heap.size rfl rfl (ev_call rfl (FibreProduct_spec _ A _ B _ D _ _ ff _ _ gg _ hN155 (by omega) (by omega) hN157 (by omega) (by omega) hN159 (by omega) (by omega) hI161 (by omega) (by omega) hI163 (by omega) (by omega))) ?_
                                              rintro _ w164 ⟨h164, U164, q164, rfl, hr164, hO164, hl164, hE164⟩
                                              have hz164 := hE164.size
                                              replace hE := hE.trans hE164
                                              replace hT := hT.trans hE164
                                              replace hDd50 := hDd50.trans hE164
                                              replace hA := hA.ext hE164
                                              replace hB := hB.ext hE164
                                              replace hD := hD.ext hE164
                                              replace hff := hff.ext hE164
                                              replace hgg := hgg.ext hE164
                                              replace hB5 := hB5.ext hE164
                                              replace hB6 := hB6.ext hE164
                                              replace hB7 := hB7.ext hE164
                                              replace hF155 := hF155.ext hE164
                                              replace hN155 := hN155.ext hE164
                                              replace hF157 := hF157.ext hE164
                                              replace hN157 := hN157.ext hE164
                                              replace hF159 := hF159.ext hE164
                                              replace hN159 := hN159.ext hE164
                                              replace hB24 := hB24.ext hE164
                                              replace hF161 := hF161.ext hE164
                                              replace hI161 := hI161.ext hE164
                                              replace hF163 := hF163.ext hE164
                                              replace hI163 := hI163.ext hE164
                                              refine ⟨by omega, fun _ hx => ⟨hDd50.lo hx (by omega), trivial⟩, ?_⟩
                                              have hDd50 := (Lo.refl (by omega) : Lo w147.heap.size w164 w164)
                                              refine PT_q rfl rfl (fun wq hq => ev_move rfl) ?_
                                              refine PT_q rfl rfl (fun wq hq => ev_extract rfl rfl) ?_
                                              refine PT_q rfl rfl (fun wq hq => ev_extract rfl rfl) ?_
                                              refine PT_a ?_
                                              refine PA_s w147.heap.size rfl (ev_stores sz31 rfl rfl rfl (by simp [Value.oneCell']) hB24 (by simp)) ?_
                                              rintro _ w50_15 hS50_15
                                              have hz50_15 := hS50_15.size
                                              replace hE := hE.sto hS50_15 (by omega)
                                              replace hT := hT.sto hS50_15 (by omega)
                                              replace hDd50 := hDd50.sto hS50_15 (by omega)
                                              replace hA := hA.sto hS50_15 (by omega)
                                              replace hB := hB.sto hS50_15 (by omega)
                                              replace hD := hD.sto hS50_15 (by omega)
                                              replace hff := hff.sto hS50_15 (by omega)
                                              replace hgg := hgg.sto hS50_15 (by omega)
                                              replace hB5 := hB5.sto hS50_15 (by omega)
                                              replace hB6 := hB6.sto hS50_15 (by omega)
                                              replace hB7 := hB7.sto hS50_15 (by omega)
                                              replace hF155 := hF155.sto hS50_15 (by omega)
                                              replace hN155 := hN155.sto hS50_15 (by omega)
                                              replace hF157 := hF157.sto hS50_15 (by omega)
                                              replace hN157 := hN157.sto hS50_15 (by omega)
                                              replace hF159 := hF159.sto hS50_15 (by omega)
                                              replace hN159 := hN159.sto hS50_15 (by omega)
                                              replace hF161 := hF161.sto hS50_15 (by omega)
                                              replace hI161 := hI161.sto hS50_15 (by omega)
                                              replace hF163 := hF163.sto hS50_15 (by omega)
                                              replace hI163 := hI163.sto hS50_15 (by omega)
                                              replace hO164 := hO164.sto hS50_15 (by omega)
                                              replace hB24 : Blk w50_15 _ _ [_, _, _] := hS50_15.blk
                                              refine ⟨by omega, fun _ hx => ⟨hDd50.lo hx (by omega), trivial⟩, ?_⟩
                                              have hDd50 := (Lo.refl (by omega) : Lo w147.heap.size w50_15 w50_15)
                                              refine PT_q rfl rfl (fun wq hq => ev_assign rfl) ?_
                                              exact PT_nil 16 ⟨hB24.num, h164, U164, q164⟩ rfl ⟨rfl, rfl, trivial⟩ rfl ⟨⟨(by (try dsimp only [Blk.num]); omega), (by (try dsimp only [Blk.num]); omega)⟩, hB24, hr164, hO164.up (by (try dsimp only [Blk.num]); omega) (by (try dsimp only [Blk.num]); omega), hl164, hT⟩
                                          · refine PA_m w147.heap.size rfl rfl (ev_alloc zr31) ?_
                                            rintro _ w24 ⟨rfl, hN24⟩
                                            have hz24 := hN24.size
                                            replace hE := hE.trans hN24.ext
                                            replace hT := hT.trans hN24.ext
                                            replace hDd50 := hDd50.trans hN24.ext
                                            replace hA := hA.ext hN24.ext
                                            replace hB := hB.ext hN24.ext
                                            replace hD := hD.ext hN24.ext
                                            replace hff := hff.ext hN24.ext
                                            replace hgg := hgg.ext hN24.ext
                                            replace hB5 := hB5.ext hN24.ext
                                            replace hB6 := hB6.ext hN24.ext
                                            replace hB7 := hB7.ext hN24.ext
                                            replace hF155 := hF155.ext hN24.ext
                                            replace hN155 := hN155.ext hN24.ext
                                            replace hF157 := hF157.ext hN24.ext
                                            replace hN157 := hN157.ext hN24.ext
                                            have hB24 : Blk w24 _ _ [_, _, _] := hN24.blk
                                            refine ⟨by omega, fun _ hx => ⟨hDd50.lo hx (by omega), trivial⟩, ?_⟩
                                            have hDd50 := (Lo.refl (by omega) : Lo w147.heap.size w24 w24)
                                            refine PT_a ?_
                                            refine PA_m w147.heap.size rfl rfl (ev_call rfl (toNetwork_spec _ D _ hD (by omega) (by omega))) ?_
                                            rintro _ w159 ⟨h159, rfl, hF159, hE159⟩
                                            have hz159 := hE159.size
                                            replace hE := hE.trans hE159
                                            replace hT := hT.trans hE159
                                            replace hDd50 := hDd50.trans hE159
                                            replace hA := hA.ext hE159
                                            replace hB := hB.ext hE159
                                            replace hD := hD.ext hE159
                                            replace hff := hff.ext hE159
                                            replace hgg := hgg.ext hE159
                                            replace hB5 := hB5.ext hE159
                                            replace hB6 := hB6.ext hE159
                                            replace hB7 := hB7.ext hE159
                                            replace hF155 := hF155.ext hE159
                                            replace hN155 := hN155.ext hE159
                                            replace hF157 := hF157.ext hE159
                                            replace hN157 := hN157.ext hE159
                                            replace hB24 := hB24.ext hE159
                                            have hN159 := hF159.is
                                            refine ⟨by omega, fun _ hx => ⟨hDd50.lo hx (by omega), trivial⟩, ?_⟩
                                            have hDd50 := (Lo.refl (by omega) : Lo w147.heap.size w159 w159)
                                            refine PT_a ?_
                                            refine PA_m w147.heap.size rfl rfl (ev_call rfl (toIntS_spec _ _ ff _ hff (by omega) (by omega))) ?_
                                            rintro _ w161 ⟨a161, rfl, hF161, hE161⟩
                                            have hz161 := hE161.size
                                            replace hE := hE.trans hE161
                                            replace hT := hT.trans hE161
                                            replace hDd50 := hDd50.trans hE161
                                            replace hA := hA.ext hE161
                                            replace hB := hB.ext hE161
                                            replace hD := hD.ext hE161
                                            replace hff := hff.ext hE161
                                            replace hgg := hgg.ext hE161
                                            replace hB5 := hB5.ext hE161
                                            replace hB6 := hB6.ext hE161
                                            replace hB7 := hB7.ext hE161
                                            replace hF155 := hF155.ext hE161
                                            replace hN155 := hN155.ext hE161
                                            replace hF157 := hF157.ext hE161
                                            replace hN157 := hN157.ext hE161
                                            replace hB24 := hB24.ext hE161
                                            replace hF159 := hF159.ext hE161
                                            replace hN159 := hN159.ext hE161
                                            have hI161 := hF161.is
                                            refine ⟨by omega, fun _ hx => ⟨hDd50.lo hx (by omega), trivial⟩, ?_⟩
                                            have hDd50 := (Lo.refl (by omega) : Lo w147.heap.size w161 w161)
                                            refine PT_a ?_
                                            refine PA_m w147.heap.size rfl rfl (ev_call rfl (toIntS_spec _ _ gg _ hgg (by omega) (by omega))) ?_
                                            rintro _ w163 ⟨a163, rfl, hF163, hE163⟩
                                            have hz163 := hE163.size
                                            replace hE := hE.trans hE163
                                            replace hT := hT.trans hE163
                                            replace hDd50 := hDd50.trans hE163
                                            replace hA := hA.ext hE163
                                            replace hB := hB.ext hE163
                                            replace hD := hD.ext hE163
                                            replace hff := hff.ext hE163
                                            replace hgg := hgg.ext hE163
                                            replace hB5 := hB5.ext hE163
                                            replace hB6 := hB6.ext hE163
                                            replace hB7 := hB7.ext hE163
                                            replace hF155 := hF155.ext hE163
                                            replace hN155 := hN155.ext hE163
                                            replace hF157 := hF157.ext hE163
                                            replace hN157 := hN157.ext hE163
                                            replace hB24 := hB24.ext hE163
                                            replace hF159 := hF159.ext hE163
                                            replace hN159 := hN159.ext hE163
                                            replace hF161 := hF161.ext hE163
                                            replace hI161 := hI161.ext hE163
                                            have hI163 := hF163.is
                                            refine ⟨by omega, fun _ hx => ⟨hDd50.lo hx (by omega), trivial⟩, ?_⟩
                                            have hDd50 := (Lo.refl (by omega) : Lo w147.heap.size w163 w163)
                                            refine PT_a ?_
                                            refine PA_m w147.heap.size rfl rfl (ev_call rfl (FibreProduct_spec _ A _ B _ D _ _ ff _ _ gg _ hN155 (by omega) (by omega) hN157 (by omega) (by omega) hN159 (by omega) (by omega) hI161 (by omega) (by omega) hI163 (by omega) (by omega))) ?_
                                            rintro _ w164 ⟨h164, U164, q164, rfl, hr164, hO164, hl164, hE164⟩
                                            have hz164 := hE164.size
                                            replace hE := hE.trans hE164
                                            replace hT := hT.trans hE164
                                            replace hDd50 := hDd50.trans hE164
                                            replace hA := hA.ext hE164
                                            replace hB := hB.ext hE164
                                            replace hD := hD.ext hE164
                                            replace hff := hff.ext hE164
                                            replace hgg := hgg.ext hE164
                                            replace hB5 := hB5.ext hE164
                                            replace hB6 := hB6.ext hE164
                                            replace hB7 := hB7.ext hE164
                                            replace hF155 := hF155.ext hE164
                                            replace hN155 := hN155.ext hE164
                                            replace hF157 := hF157.ext hE164
                                            replace hN157 := hN157.ext hE164
                                            replace hB24 := hB24.ext hE164
                                            replace hF159 := hF159.ext hE164
                                            replace hN159 := hN159.ext hE164
                                            replace hF161 := hF161.ext hE164
                                            replace hI161 := hI161.ext hE164
                                            replace hF163 := hF163.ext hE164
                                            replace hI163 := hI163.ext hE164
                                            refine ⟨by omega, fun _ hx => ⟨hDd50.lo hx (by omega), trivial⟩, ?_⟩
                                            have hDd50 := (Lo.refl (by omega) : Lo w147.heap.size w164 w164)
                                            refine PT_q rfl rfl (fun wq hq => ev_move rfl) ?_
                                            refine PT_q rfl rfl (fun wq hq => ev_extract rfl rfl) ?_
                                            refine PT_q rfl rfl (fun wq hq => ev_extract rfl rfl) ?_
                                            refine PT_a ?_
                                            refine PA_s w147.heap.size rfl (ev_stores sz31 rfl rfl rfl (by simp [Value.oneCell']) hB24 (by simp)) ?_
                                            rintro _ w50_15 hS50_15
                                            have hz50_15 := hS50_15.size
                                            replace hE := hE.sto hS50_15 (by omega)
                                            replace hT := hT.sto hS50_15 (by omega)
                                            replace hDd50 := hDd50.sto hS50_15 (by omega)
                                            replace hA := hA.sto hS50_15 (by omega)
                                            replace hB := hB.sto hS50_15 (by omega)
                                            replace hD := hD.sto hS50_15 (by omega)
                                            replace hff := hff.sto hS50_15 (by omega)
                                            replace hgg := hgg.sto hS50_15 (by omega)
                                            replace hB5 := hB5.sto hS50_15 (by omega)
                                            replace hB6 := hB6.sto hS50_15 (by omega)
                                            replace hB7 := hB7.sto hS50_15 (by omega)
                                            replace hF155 := hF155.sto hS50_15 (by omega)
                                            replace hN155 := hN155.sto hS50_15 (by omega)
                                            replace hF157 := hF157.sto hS50_15 (by omega)
                                            replace hN157 := hN157.sto hS50_15 (by omega)
                                            replace hF159 := hF159.sto hS50_15 (by omega)
                                            replace hN159 := hN159.sto hS50_15 (by omega)
                                            replace hF161 := hF161.sto hS50_15 (by omega)
                                            replace hI161 := hI161.sto hS50_15 (by omega)
                                            replace hF163 := hF163.sto hS50_15 (by omega)
                                            replace hI163 := hI163.sto hS50_15 (by omega)
                                            replace hO164 := hO164.sto hS50_15 (by omega)
                                            replace hB24 : Blk w50_15 _ _ [_, _, _] := hS50_15.blk
                                            refine ⟨by omega, fun _ hx => ⟨hDd50.lo hx (by omega), trivial⟩, ?_⟩
                                            have hDd50 := (Lo.refl (by omega) : Lo w147.heap.size w50_15 w50_15)
                                            refine PT_q rfl rfl (fun wq hq => ev_assign rfl) ?_
                                            exact PT_nil 16 ⟨hB24.num, h164, U164, q164⟩ rfl ⟨rfl, rfl, trivial⟩ rfl ⟨⟨(by (try dsimp only [Blk.num]); omega), (by (try dsimp only [Blk.num]); omega)⟩, hB24, hr164, hO164.up (by (try dsimp only [Blk.num]); omega) (by (try dsimp only [Blk.num]); omega), hl164, hT⟩
                                        · refine PA_m w147.heap.size rfl rfl (ev_alloc zr31) ?_
                                          rintro _ w24 ⟨rfl, hN24⟩
                                          have hz24 := hN24.size
                                          replace hE := hE.trans hN24.ext
                                          replace hT := hT.trans hN24.ext
                                          replace hDd50 := hDd50.trans hN24.ext
                                          replace hA := hA.ext hN24.ext
                                          replace hB := hB.ext hN24.ext
                                          replace hD := hD.ext hN24.ext
                                          replace hff := hff.ext hN24.ext
                                          replace hgg := hgg.ext hN24.ext
                                          replace hB5 := hB5.ext hN24.ext
                                          replace hB6 := hB6.ext hN24.ext
                                          replace hB7 := hB7.ext hN24.ext
                                          replace hF155 := hF155.ext hN24.ext
                                          replace hN155 := hN155.ext hN24.ext
                                          have hB24 : Blk w24 _ _ [_, _, _] := hN24.blk
                                          refine ⟨by omega, fun _ hx => ⟨hDd50.lo hx (by omega), trivial⟩, ?_⟩
                                          have hDd50 := (Lo.refl (by omega) : Lo w147.heap.size w24 w24)
                                          refine PT_a ?_
                                          refine PA_m w147.heap.size rfl rfl (ev_call rfl (toNetwork_spec _ B _ hB (by omega) (by omega))) ?_
                                          rintro _ w157 ⟨h157, rfl, hF157, hE157⟩
                                          have hz157 := hE157.size
                                          replace hE := hE.trans hE157
                                          replace hT := hT.trans hE157
                                          replace hDd50 := hDd50.trans hE157
                                          replace hA := hA.ext hE157
                                          replace hB := hB.ext hE157
                                          replace hD := hD.ext hE157
                                          replace hff := hff.ext hE157
                                          replace hgg := hgg.ext hE157
                                          replace hB5 := hB5.ext hE157
                                          replace hB6 := hB6.ext hE157
                                          replace hB7 := hB7.ext hE157
                                          replace hF155 := hF155.ext hE157
                                          replace hN155 := hN155.ext hE157
                                          replace hB24 := hB24.ext hE157
                                          have hN157 := hF157.is
                                          refine ⟨by omega, fun _ hx => ⟨hDd50.lo hx (by omega), trivial⟩, ?_⟩
                                          have hDd50 := (Lo.refl (by omega) : Lo w147.heap.size w157 w157)
                                          refine PT_a ?_
                                          refine PA_m w147.heap.size rfl rfl (ev_call rfl (toNetwork_spec _ D _ hD (by omega) (by omega))) ?_
                                          rintro _ w159 ⟨h159, rfl, hF159, hE159⟩
                                          have hz159 := hE159.size
                                          replace hE := hE.trans hE159
                                          replace hT := hT.trans hE159
                                          replace hDd50 := hDd50.trans hE159
                                          replace hA := hA.ext hE159
                                          replace hB := hB.ext hE159
                                          replace hD := hD.ext hE159
                                          replace hff := hff.ext hE159
                                          replace hgg := hgg.ext hE159
                                          replace hB5 := hB5.ext hE159
                                          replace hB6 := hB6.ext hE159
                                          replace hB7 := hB7.ext hE159
                                          replace hF155 := hF155.ext hE159
                                          replace hN155 := hN155.ext hE159
                                          replace hB24 := hB24.ext hE159
                                          replace hF157 := hF157.ext hE159
                                          replace hN157 := hN157.ext hE159
                                          have hN159 := hF159.is
                                          refine ⟨by omega, fun _ hx => ⟨hDd50.lo hx (by omega), trivial⟩, ?_⟩
                                          have hDd50 := (Lo.refl (by omega) : Lo w147.heap.size w159 w159)
                                          refine PT_a ?_
                                          refine PA_m w147.heap.size rfl rfl (ev_call rfl (toIntS_spec _ _ ff _ hff (by omega) (by omega))) ?_
                                          rintro _ w161 ⟨a161, rfl, hF161, hE161⟩
                                          have hz161 := hE161.size
                                          replace hE := hE.trans hE161
                                          replace hT := hT.trans hE161
                                          replace hDd50 := hDd50.trans hE161
                                          replace hA := hA.ext hE161
                                          replace hB := hB.ext hE161
                                          replace hD := hD.ext hE161
                                          replace hff := hff.ext hE161
                                          replace hgg := hgg.ext hE161
                                          replace hB5 := hB5.ext hE161
                                          replace hB6 := hB6.ext hE161
                                          replace hB7 := hB7.ext hE161
                                          replace hF155 := hF155.ext hE161
                                          replace hN155 := hN155.ext hE161
                                          replace hB24 := hB24.ext hE161
                                          replace hF157 := hF157.ext hE161
                                          replace hN157 := hN157.ext hE161
                                          replace hF159 := hF159.ext hE161
                                          replace hN159 := hN159.ext hE161
                                          have hI161 := hF161.is
                                          refine ⟨by omega, fun _ hx => ⟨hDd50.lo hx (by omega), trivial⟩, ?_⟩
                                          have hDd50 := (Lo.refl (by omega) : Lo w147.heap.size w161 w161)
                                          refine PT_a ?_
                                          refine PA_m w147.heap.size rfl rfl (ev_call rfl (toIntS_spec _ _ gg _ hgg (by omega) (by omega))) ?_
                                          rintro _ w163 ⟨a163, rfl, hF163, hE163⟩
                                          have hz163 := hE163.size
                                          replace hE := hE.trans hE163
                                          replace hT := hT.trans hE163
                                          replace hDd50 := hDd50.trans hE163
                                          replace hA := hA.ext hE163
                                          replace hB := hB.ext hE163
                                          replace hD := hD.ext hE163
                                          replace hff := hff.ext hE163
                                          replace hgg := hgg.ext hE163
                                          replace hB5 := hB5.ext hE163
                                          replace hB6 := hB6.ext hE163
                                          replace hB7 := hB7.ext hE163
                                          replace hF155 := hF155.ext hE163
                                          replace hN155 := hN155.ext hE163
                                          replace hB24 := hB24.ext hE163
                                          replace hF157 := hF157.ext hE163
                                          replace hN157 := hN157.ext hE163
                                          replace hF159 := hF159.ext hE163
                                          replace hN159 := hN159.ext hE163
                                          replace hF161 := hF161.ext hE163
                                          replace hI161 := hI161.ext hE163
                                          have hI163 := hF163.is
                                          refine ⟨by omega, fun _ hx => ⟨hDd50.lo hx (by omega), trivial⟩, ?_⟩
                                          have hDd50 := (Lo.refl (by omega) : Lo w147.heap.size w163 w163)
                                          refine PT_a ?_
                                          refine PA_m w147.heap.size rfl rfl (ev_call rfl (FibreProduct_spec _ A _ B _ D _ _ ff _ _ gg _ hN155 (by omega) (by omega) hN157 (by omega) (by omega) hN159 (by omega) (by omega) hI161 (by omega) (by omega) hI163 (by omega) (by omega))) ?_
                                          rintro _ w164 ⟨h164, U164, q164, rfl, hr164, hO164, hl164, hE164⟩
                                          have hz164 := hE164.size
                                          replace hE := hE.trans hE164
                                          replace hT := hT.trans hE164
                                          replace hDd50 := hDd50.trans hE164
                                          replace hA := hA.ext hE164
                                          replace hB := hB.ext hE164
                                          replace hD := hD.ext hE164
                                          replace hff := hff.ext hE164
                                          replace hgg := hgg.ext hE164
                                          replace hB5 := hB5.ext hE164
                                          replace hB6 := hB6.ext hE164
                                          replace hB7 := hB7.ext hE164
                                          replace hF155 := hF155.ext hE164
                                          replace hN155 := hN155.ext hE164
                                          replace hB24 := hB24.ext hE164
                                          replace hF157 := hF157.ext hE164
                                          replace hN157 := hN157.ext hE164
                                          replace hF159 := hF159.ext hE164
                                          replace hN159 := hN159.ext hE164
                                          replace hF161 := hF161.ext hE164
                                          replace hI161 := hI161.ext hE164
                                          replace hF163 := hF163.ext hE164
                                          replace hI163 := hI163.ext hE164
                                          refine ⟨by omega, fun _ hx => ⟨hDd50.lo hx (by omega), trivial⟩, ?_⟩
                                          have hDd50 := (Lo.refl (by omega) : Lo w147.heap.size w164 w164)
                                          refine PT_q rfl rfl (fun wq hq => ev_move rfl) ?_
                                          refine PT_q rfl rfl (fun wq hq => ev_extract rfl rfl) ?_
                                          refine PT_q rfl rfl (fun wq hq => ev_extract rfl rfl) ?_
                                          refine PT_a ?_
                                          refine PA_s w147.heap.size rfl (ev_stores sz31 rfl rfl rfl (by simp [Value.oneCell']) hB24 (by simp)) ?_
                                          rintro _ w50_15 hS50_15
                                          have hz50_15 := hS50_15.size
                                          replace hE := hE.sto hS50_15 (by omega)
                                          replace hT := hT.sto hS50_15 (by omega)
                                          replace hDd50 := hDd50.sto hS50_15 (by omega)
                                          replace hA := hA.sto hS50_15 (by omega)
                                          replace hB := hB.sto hS50_15 (by omega)
                                          replace hD := hD.sto hS50_15 (by omega)
                                          replace hff := hff.sto hS50_15 (by omega)
                                          replace hgg := hgg.sto hS50_15 (by omega)
                                          replace hB5 := hB5.sto hS50_15 (by omega)
                                          replace hB6 := hB6.sto hS50_15 (by omega)
                                          replace hB7 := hB7.sto hS50_15 (by omega)
                                          replace hF155 := hF155.sto hS50_15 (by omega)
                                          replace hN155 := hN155.sto hS50_15 (by omega)
                                          replace hF157 := hF157.sto hS50_15 (by omega)
                                          replace hN157 := hN157.sto hS50_15 (by omega)
                                          replace hF159 := hF159.sto hS50_15 (by omega)
                                          replace hN159 := hN159.sto hS50_15 (by omega)
                                          replace hF161 := hF161.sto hS50_15 (by omega)
                                          replace hI161 := hI161.sto hS50_15 (by omega)
                                          replace hF163 := hF163.sto hS50_15 (by omega)
                                          replace hI163 := hI163.sto hS50_15 (by omega)
                                          replace hO164 := hO164.sto hS50_15 (by omega)
                                          replace hB24 : Blk w50_15 _ _ [_, _, _] := hS50_15.blk
                                          refine ⟨by omega, fun _ hx => ⟨hDd50.lo hx (by omega), trivial⟩, ?_⟩
                                          have hDd50 := (Lo.refl (by omega) : Lo w147.heap.size w50_15 w50_15)
                                          refine PT_q rfl rfl (fun wq hq => ev_assign rfl) ?_
                                          exact PT_nil 16 ⟨hB24.num, h164, U164, q164⟩ rfl ⟨rfl, rfl, trivial⟩ rfl ⟨⟨(by (try dsimp only [Blk.num]); omega), (by (try dsimp only [Blk.num]); omega)⟩, hB24, hr164, hO164.up (by (try dsimp only [Blk.num]); omega) (by (try dsimp only [Blk.num]); omega), hl164, hT⟩
                                      · refine PA_m w147.heap.size rfl rfl (ev_alloc zr31) ?_
                                        rintro _ w24 ⟨rfl, hN24⟩
                                        have hz24 := hN24.size
                                        replace hE := hE.trans hN24.ext
                                        replace hT := hT.trans hN24.ext
                                        replace hDd50 := hDd50.trans hN24.ext
                                        replace hA := hA.ext hN24.ext
                                        replace hB := hB.ext hN24.ext
                                        replace hD := hD.ext hN24.ext
                                        replace hff := hff.ext hN24.ext
                                        replace hgg := hgg.ext hN24.ext
                                        replace hB5 := hB5.ext hN24.ext
                                        replace hB6 := hB6.ext hN24.ext
                                        replace hB7 := hB7.ext hN24.ext
                                        have hB24 : Blk w24 _ _ [_, _, _] := hN24.blk
                                        refine ⟨by omega, fun _ hx => ⟨hDd50.lo hx (by omega), trivial⟩, ?_⟩
                                        have hDd50 := (Lo.refl (by omega) : Lo w147.heap.size w24 w24)
                                        refine PT_a ?_
                                        refine PA_m w147.heap.size rfl rfl (ev_call rfl (toNetwork_spec _ A _ hA (by omega) (by omega))) ?_
                                        rintro _ w155 ⟨h155, rfl, hF155, hE155⟩
                                        have hz155 := hE155.size
                                        replace hE := hE.trans hE155
                                        replace hT := hT.trans hE155
                                        replace hDd50 := hDd50.trans hE155
                                        replace hA := hA.ext hE155
                                        replace hB := hB.ext hE155
                                        replace hD := hD.ext hE155
                                        replace hff := hff.ext hE155
                                        replace hgg := hgg.ext hE155
                                        replace hB5 := hB5.ext hE155
                                        replace hB6 := hB6.ext hE155
                                        replace hB7 := hB7.ext hE155
                                        replace hB24 := hB24.ext hE155
                                        have hN155 := hF155.is
                                        refine ⟨by omega, fun _ hx => ⟨hDd50.lo hx (by omega), trivial⟩, ?_⟩
                                        have hDd50 := (Lo.refl (by omega) : Lo w147.heap.size w155 w155)
                                        refine PT_a ?_
                                        refine PA_m w147.heap.size rfl rfl (ev_call rfl (toNetwork_spec _ B _ hB (by omega) (by omega))) ?_
                                        rintro _ w157 ⟨h157, rfl, hF157, hE157⟩
                                        have hz157 := hE157.size
                                        replace hE := hE.trans hE157
                                        replace hT := hT.trans hE157
                                        replace hDd50 := hDd50.trans hE157
                                        replace hA := hA.ext hE157
                                        replace hB := hB.ext hE157
                                        replace hD := hD.ext hE157
                                        replace hff := hff.ext hE157
                                        replace hgg := hgg.ext hE157
                                        replace hB5 := hB5.ext hE157
                                        replace hB6 := hB6.ext hE157
                                        replace hB7 := hB7.ext hE157
                                        replace hB24 := hB24.ext hE157
                                        replace hF155 := hF155.ext hE157
                                        replace hN155 := hN155.ext hE157
                                        have hN157 := hF157.is
                                        refine ⟨by omega, fun _ hx => ⟨hDd50.lo hx (by omega), trivial⟩, ?_⟩
                                        have hDd50 := (Lo.refl (by omega) : Lo w147.heap.size w157 w157)
                                        refine PT_a ?_
                                        refine PA_m w147.heap.size rfl rfl (ev_call rfl (toNetwork_spec _ D _ hD (by omega) (by omega))) ?_
                                        rintro _ w159 ⟨h159, rfl, hF159, hE159⟩
                                        have hz159 := hE159.size
                                        replace hE := hE.trans hE159
                                        replace hT := hT.trans hE159
                                        replace hDd50 := hDd50.trans hE159
                                        replace hA := hA.ext hE159
                                        replace hB := hB.ext hE159
                                        replace hD := hD.ext hE159
                                        replace hff := hff.ext hE159
                                        replace hgg := hgg.ext hE159
                                        replace hB5 := hB5.ext hE159
                                        replace hB6 := hB6.ext hE159
                                        replace hB7 := hB7.ext hE159
                                        replace hB24 := hB24.ext hE159
                                        replace hF155 := hF155.ext hE159
                                        replace hN155 := hN155.ext hE159
                                        replace hF157 := hF157.ext hE159
                                        replace hN157 := hN157.ext hE159
                                        have hN159 := hF159.is
                                        refine ⟨by omega, fun _ hx => ⟨hDd50.lo hx (by omega), trivial⟩, ?_⟩
                                        have hDd50 := (Lo.refl (by omega) : Lo w147.heap.size w159 w159)
                                        refine PT_a ?_
                                        refine PA_m w147.heap.size rfl rfl (ev_call rfl (toIntS_spec _ _ ff _ hff (by omega) (by omega))) ?_
                                        rintro _ w161 ⟨a161, rfl, hF161, hE161⟩
                                        have hz161 := hE161.size
                                        replace hE := hE.trans hE161
                                        replace hT := hT.trans hE161
                                        replace hDd50 := hDd50.trans hE161
                                        replace hA := hA.ext hE161
                                        replace hB := hB.ext hE161
                                        replace hD := hD.ext hE161
                                        replace hff := hff.ext hE161
                                        replace hgg := hgg.ext hE161
                                        replace hB5 := hB5.ext hE161
                                        replace hB6 := hB6.ext hE161
                                        replace hB7 := hB7.ext hE161
                                        replace hB24 := hB24.ext hE161
                                        replace hF155 := hF155.ext hE161
                                        replace hN155 := hN155.ext hE161
                                        replace hF157 := hF157.ext hE161
                                        replace hN157 := hN157.ext hE161
                                        replace hF159 := hF159.ext hE161
                                        replace hN159 := hN159.ext hE161
                                        have hI161 := hF161.is
                                        refine ⟨by omega, fun _ hx => ⟨hDd50.lo hx (by omega), trivial⟩, ?_⟩
                                        have hDd50 := (Lo.refl (by omega) : Lo w147.heap.size w161 w161)
                                        refine PT_a ?_
                                        refine PA_m w147.heap.size rfl rfl (ev_call rfl (toIntS_spec _ _ gg _ hgg (by omega) (by omega))) ?_
                                        rintro _ w163 ⟨a163, rfl, hF163, hE163⟩
                                        have hz163 := hE163.size
                                        replace hE := hE.trans hE163
                                        replace hT := hT.trans hE163
                                        replace hDd50 := hDd50.trans hE163
                                        replace hA := hA.ext hE163
                                        replace hB := hB.ext hE163
                                        replace hD := hD.ext hE163
                                        replace hff := hff.ext hE163
                                        replace hgg := hgg.ext hE163
                                        replace hB5 := hB5.ext hE163
                                        replace hB6 := hB6.ext hE163
                                        replace hB7 := hB7.ext hE163
                                        replace hB24 := hB24.ext hE163
                                        replace hF155 := hF155.ext hE163
                                        replace hN155 := hN155.ext hE163
                                        replace hF157 := hF157.ext hE163
                                        replace hN157 := hN157.ext hE163
                                        replace hF159 := hF159.ext hE163
                                        replace hN159 := hN159.ext hE163
                                        replace hF161 := hF161.ext hE163
                                        replace hI161 := hI161.ext hE163
                                        have hI163 := hF163.is
                                        refine ⟨by omega, fun _ hx => ⟨hDd50.lo hx (by omega), trivial⟩, ?_⟩
                                        have hDd50 := (Lo.refl (by omega) : Lo w147.heap.size w163 w163)
                                        refine PT_a ?_
                                        refine PA_m w147.heap.size rfl rfl (ev_call rfl (FibreProduct_spec _ A _ B _ D _ _ ff _ _ gg _ hN155 (by omega) (by omega) hN157 (by omega) (by omega) hN159 (by omega) (by omega) hI161 (by omega) (by omega) hI163 (by omega) (by omega))) ?_
                                        rintro _ w164 ⟨h164, U164, q164, rfl, hr164, hO164, hl164, hE164⟩
                                        have hz164 := hE164.size
                                        replace hE := hE.trans hE164
                                        replace hT := hT.trans hE164
                                        replace hDd50 := hDd50.trans hE164
                                        replace hA := hA.ext hE164
                                        replace hB := hB.ext hE164
                                        replace hD := hD.ext hE164
                                        replace hff := hff.ext hE164
                                        replace hgg := hgg.ext hE164
                                        replace hB5 := hB5.ext hE164
                                        replace hB6 := hB6.ext hE164
                                        replace hB7 := hB7.ext hE164
                                        replace hB24 := hB24.ext hE164
                                        replace hF155 := hF155.ext hE164
                                        replace hN155 := hN155.ext hE164
                                        replace hF157 := hF157.ext hE164
                                        replace hN157 := hN157.ext hE164
                                        replace hF159 := hF159.ext hE164
                                        replace hN159 := hN159.ext hE164
                                        replace hF161 := hF161.ext hE164
                                        replace hI161 := hI161.ext hE164
                                        replace hF163 := hF163.ext hE164
                                        replace hI163 := hI163.ext hE164
                                        refine ⟨by omega, fun _ hx => ⟨hDd50.lo hx (by omega), trivial⟩, ?_⟩
                                        have hDd50 := (Lo.refl (by omega) : Lo w147.heap.size w164 w164)
                                        refine PT_q rfl rfl (fun wq hq => ev_move rfl) ?_
                                        refine PT_q rfl rfl (fun wq hq => ev_extract rfl rfl) ?_
                                        refine PT_q rfl rfl (fun wq hq => ev_extract rfl rfl) ?_
                                        refine PT_a ?_
                                        refine PA_s w147.heap.size rfl (ev_stores sz31 rfl rfl rfl (by simp [Value.oneCell']) hB24 (by simp)) ?_
                                        rintro _ w50_15 hS50_15
                                        have hz50_15 := hS50_15.size
                                        replace hE := hE.sto hS50_15 (by omega)
                                        replace hT := hT.sto hS50_15 (by omega)
                                        replace hDd50 := hDd50.sto hS50_15 (by omega)
                                        replace hA := hA.sto hS50_15 (by omega)
                                        replace hB := hB.sto hS50_15 (by omega)
                                        replace hD := hD.sto hS50_15 (by omega)
                                        replace hff := hff.sto hS50_15 (by omega)
                                        replace hgg := hgg.sto hS50_15 (by omega)
                                        replace hB5 := hB5.sto hS50_15 (by omega)
                                        replace hB6 := hB6.sto hS50_15 (by omega)
                                        replace hB7 := hB7.sto hS50_15 (by omega)
                                        replace hF155 := hF155.sto hS50_15 (by omega)
                                        replace hN155 := hN155.sto hS50_15 (by omega)
                                        replace hF157 := hF157.sto hS50_15 (by omega)
                                        replace hN157 := hN157.sto hS50_15 (by omega)
                                        replace hF159 := hF159.sto hS50_15 (by omega)
                                        replace hN159 := hN159.sto hS50_15 (by omega)
                                        replace hF161 := hF161.sto hS50_15 (by omega)
                                        replace hI161 := hI161.sto hS50_15 (by omega)
                                        replace hF163 := hF163.sto hS50_15 (by omega)
                                        replace hI163 := hI163.sto hS50_15 (by omega)
                                        replace hO164 := hO164.sto hS50_15 (by omega)
                                        replace hB24 : Blk w50_15 _ _ [_, _, _] := hS50_15.blk
                                        refine ⟨by omega, fun _ hx => ⟨hDd50.lo hx (by omega), trivial⟩, ?_⟩
                                        have hDd50 := (Lo.refl (by omega) : Lo w147.heap.size w50_15 w50_15)
                                        refine PT_q rfl rfl (fun wq hq => ev_assign rfl) ?_
                                        exact PT_nil 16 ⟨hB24.num, h164, U164, q164⟩ rfl ⟨rfl, rfl, trivial⟩ rfl ⟨⟨(by (try dsimp only [Blk.num]); omega), (by (try dsimp only [Blk.num]); omega)⟩, hB24, hr164, hO164.up (by (try dsimp only [Blk.num]); omega) (by (try dsimp only [Blk.num]); omega), hl164, hT⟩
                                    rintro ⟨b24, h164, U164, q164⟩ wt50 ⟨⟨hb164_1, hb164_2⟩, hB24, hr164, hO164, hl164, hT164⟩
                                    dsimp only [List.cons_append, List.nil_append]
                                    dsimp only at hb164_1 hb164_2 hB24 hr164 hO164 hl164
                                    replace hE := hE.trans hT164
                                    replace hA := hA.ext hT164
                                    replace hB := hB.ext hT164
                                    replace hD := hD.ext hT164
                                    replace hff := hff.ext hT164
                                    replace hgg := hgg.ext hT164
                                    replace hB5 := hB5.ext hT164
                                    replace hB6 := hB6.ext hT164
                                    replace hB7 := hB7.ext hT164
                                    replace hB12 := hB12.ext hT164
                                    replace hN58 := hN58.ext hT164
                                    replace hB14 := hB14.ext hT164
                                    replace hB15 := hB15.ext hT164
                                    replace hB16 := hB16.ext hT164
                                    replace hO77 := hO77.ext hT164
                                    replace hB19 := hB19.ext hT164
                                    replace hF91 := hF91.ext hT164
                                    replace hN91 := hN91.ext hT164
                                    replace hF96 := hF96.ext hT164
                                    replace hN96 := hN96.ext hT164
                                    replace hF101 := hF101.ext hT164
                                    replace hN101 := hN101.ext hT164
                                    replace hF106 := hF106.ext hT164
                                    replace hI106 := hI106.ext hT164
                                    replace hF111 := hF111.ext hT164
                                    replace hI111 := hI111.ext hT164
                                    refine thenE_n ?_
                                    refine W_seq ?_
                                    refine W_seq ?_
                                    refine W_region ?_
                                    refine WL_q rfl (ev_loads st31 sz31 rfl (cellsB hB24) rfl) ?_
                                    refine WL_q rfl (ev_loads st31 sz31 rfl (cellsB hB12) rfl) ?_
                                    have eU169 := hr58.det1 hr164
                                    subst eU169
                                    refine WL_m rfl (ev_call rfl (eqNetwork_spec _ _ U58 _ hO164.is hN58 (by omega))) ?_
                                    rintro _ w169 ⟨rfl, hE169⟩
                                    have hz169 := hE169.size
                                    replace hE := hE.trans hE169
                                    replace hA := hA.ext hE169
                                    replace hB := hB.ext hE169
                                    replace hD := hD.ext hE169
                                    replace hff := hff.ext hE169
                                    replace hgg := hgg.ext hE169
                                    replace hB5 := hB5.ext hE169
                                    replace hB6 := hB6.ext hE169
                                    replace hB7 := hB7.ext hE169
                                    replace hB12 := hB12.ext hE169
                                    replace hN58 := hN58.ext hE169
                                    replace hB14 := hB14.ext hE169
                                    replace hB15 := hB15.ext hE169
                                    replace hB16 := hB16.ext hE169
                                    replace hO77 := hO77.ext hE169
                                    replace hB19 := hB19.ext hE169
                                    replace hF91 := hF91.ext hE169
                                    replace hN91 := hN91.ext hE169
                                    replace hF96 := hF96.ext hE169
                                    replace hN96 := hN96.ext hE169
                                    replace hF101 := hF101.ext hE169
                                    replace hN101 := hN101.ext hE169
                                    replace hF106 := hF106.ext hE169
                                    replace hI106 := hI106.ext hE169
                                    replace hF111 := hF111.ext hE169
                                    replace hI111 := hI111.ext hE169
                                    replace hB24 := hB24.ext hE169
                                    replace hO164 := hO164.ext hE169
                                    refine WL_q rfl (ev_not rfl) ?_
                                    refine WL_q rfl (ev_move rfl) ?_
                                    refine WL_splitv (t := 171) rfl (fun hg170 => ?_) (fun hg170 => ?_)
                                    · have hg169 := not_true hg170
                                      refine WL_no rfl rfl hg170 rfl ?_
                                      refine WL_no rfl rfl hg170 rfl ?_
                                      refine WL_no rfl rfl hg170 rfl ?_
                                      refine WL_q rfl (ev_pick_t rfl hg170 rfl) ?_
                                      refine WL_nil ?_
                                      refine thenE_n ?_
                                      refine W_cond_t rfl ?_
                                      refine W_seq ?_
                                      refine W_region ?_
                                      refine WL_q rfl (ev_assign rfl) ?_
                                      refine WL_nil ?_
                                      refine thenE_n ?_
                                      refine W_ret ?_
                                      refine thenE_r ?_
                                      refine ret1 rfl rfl ?_
                                      first | (exact ⟨rfl, hE⟩) | (exact (bneE hg169 (hr164.det1 hr58)).elim) | (exact absurd (hr164.det1 hr58) hp169) | (exact absurd (hr164.det1 hr58) (of_decide_eq_false hg169)) | (exact (bneE hg169 (hr164.det2 hr58)).elim) | (exact absurd (hr164.det2 hr58) hp169) | (exact absurd (hr164.det2 hr58) (of_decide_eq_false hg169)) | (exact (bneE hg169 (hr164.det3 hr58)).elim) | (exact absurd (hr164.det3 hr58) hp169) | (exact absurd (hr164.det3 hr58) (of_decide_eq_false hg169)) | (exact (bneE hg169 (hr164.det1 hr58)).elim) | (exact absurd (hr164.det1 hr58) hp169) | (exact absurd (hr164.det1 hr58) (of_decide_eq_false hg169)) | (exact (bneE hg169 (hr164.det2 hr58)).elim) | (exact absurd (hr164.det2 hr58) hp169) | (exact absurd (hr164.det2 hr58) (of_decide_eq_false hg169)) | (exact (bneE hg169 (hr164.det3 hr58)).elim) | (exact absurd (hr164.det3 hr58) hp169) | (exact absurd (hr164.det3 hr58) (of_decide_eq_false hg169)) | (exact (bneE hg169 (hr164.det1 hr58)).elim) | (exact absurd (hr164.det1 hr58) hp169) | (exact absurd (hr164.det1 hr58) (of_decide_eq_false hg169)) | (exact (bneE hg169 (hr164.det2 hr58)).elim) | (exact absurd (hr164.det2 hr58) hp169) | (exact absurd (hr164.det2 hr58) (of_decide_eq_false hg169)) | (exact (bneE hg169 (hr164.det3 hr58)).elim) | (exact absurd (hr164.det3 hr58) hp169) | (exact absurd (hr164.det3 hr58) (of_decide_eq_false hg169)) | (exact (bneE hg169 (hr164.det1 hr58)).elim) | (exact absurd (hr164.det1 hr58) hp169) | (exact absurd (hr164.det1 hr58) (of_decide_eq_false hg169)) | (exact (bneE hg169 (hr164.det2 hr58)).elim) | (exact absurd (hr164.det2 hr58) hp169) | (exact absurd (hr164.det2 hr58) (of_decide_eq_false hg169)) | (exact (bneE hg169 (hr164.det3 hr58)).elim) | (exact absurd (hr164.det3 hr58) hp169) | (exact absurd (hr164.det3 hr58) (of_decide_eq_false hg169)) | (exact (bneE hg169 (hr164.det1 hr58)).elim) | (exact absurd (hr164.det1 hr58) hp169) | (exact absurd (hr164.det1 hr58) (of_decide_eq_false hg169)) | (exact (bneE hg169 (hr164.det2 hr58)).elim) | (exact absurd (hr164.det2 hr58) hp169) | (exact absurd (hr164.det2 hr58) (of_decide_eq_false hg169)) | (exact (bneE hg169 (hr164.det3 hr58)).elim) | (exact absurd (hr164.det3 hr58) hp169) | (exact absurd (hr164.det3 hr58) (of_decide_eq_false hg169)) | (exact (bneE hg169 (hr164.det1 hr58)).elim) | (exact absurd (hr164.det1 hr58) hp169) | (exact absurd (hr164.det1 hr58) (of_decide_eq_false hg169)) | (exact (bneE hg169 (hr164.det2 hr58)).elim) | (exact absurd (hr164.det2 hr58) hp169) | (exact absurd (hr164.det2 hr58) (of_decide_eq_false hg169)) | (exact (bneE hg169 (hr164.det3 hr58)).elim) | (exact absurd (hr164.det3 hr58) hp169) | (exact absurd (hr164.det3 hr58) (of_decide_eq_false hg169)) | (exact (bneE hg169 (hr164.det1 hr58)).elim) | (exact absurd (hr164.det1 hr58) hp169) | (exact absurd (hr164.det1 hr58) (of_decide_eq_false hg169)) | (exact (bneE hg169 (hr164.det2 hr58)).elim) | (exact absurd (hr164.det2 hr58) hp169) | (exact absurd (hr164.det2 hr58) (of_decide_eq_false hg169)) | (exact (bneE hg169 (hr164.det3 hr58)).elim) | (exact absurd (hr164.det3 hr58) hp169) | (exact absurd (hr164.det3 hr58) (of_decide_eq_false hg169)) | (exact (bneE hg169 (hr77.det1 hr58)).elim) | (exact absurd (hr77.det1 hr58) hp169) | (exact absurd (hr77.det1 hr58) (of_decide_eq_false hg169)) | (exact (bneE hg169 (hr77.det2 hr58)).elim) | (exact absurd (hr77.det2 hr58) hp169) | (exact absurd (hr77.det2 hr58) (of_decide_eq_false hg169)) | (exact (bneE hg169 (hr77.det3 hr58)).elim) | (exact absurd (hr77.det3 hr58) hp169) | (exact absurd (hr77.det3 hr58) (of_decide_eq_false hg169)) | (exact (tfX hg169).elim) | (exact (decF hg169).elim) | (exfalso; omega)
                                    · have hg169 := not_false hg170
                                      refine WL_qg rfl rfl hg170 rfl (ev_move rfl) ?_
                                      refine WL_qg rfl rfl hg170 rfl (ev_move rfl) ?_
                                      refine WL_qg rfl rfl hg170 rfl (ev_neq_b Try.underlying4 rfl rfl) ?_
                                      refine WL_q rfl (ev_pick_f rfl hg170 rfl) ?_
                                      refine WL_nil ?_
                                      refine thenE_n ?_
                                      refine W_cond rfl (fun hg174 => ?_) (fun hg174 => ?_)
                                      · refine W_seq ?_
                                        refine W_region ?_
                                        refine WL_q rfl (ev_assign rfl) ?_
                                        refine WL_nil ?_
                                        refine thenE_n ?_
                                        refine W_ret ?_
                                        refine thenE_r ?_
                                        refine ret1 rfl rfl ?_
                                        first | (exact ⟨rfl, hE⟩) | (exact (bneE hg174 (hr164.det1 hr58)).elim) | (exact absurd (hr164.det1 hr58) hp174) | (exact absurd (hr164.det1 hr58) (of_decide_eq_false hg174)) | (exact (bneE hg174 (hr164.det2 hr58)).elim) | (exact absurd (hr164.det2 hr58) hp174) | (exact absurd (hr164.det2 hr58) (of_decide_eq_false hg174)) | (exact (bneE hg174 (hr164.det3 hr58)).elim) | (exact absurd (hr164.det3 hr58) hp174) | (exact absurd (hr164.det3 hr58) (of_decide_eq_false hg174)) | (exact (bneE hg174 (hr164.det1 hr58)).elim) | (exact absurd (hr164.det1 hr58) hp174) | (exact absurd (hr164.det1 hr58) (of_decide_eq_false hg174)) | (exact (bneE hg174 (hr164.det2 hr58)).elim) | (exact absurd (hr164.det2 hr58) hp174) | (exact absurd (hr164.det2 hr58) (of_decide_eq_false hg174)) | (exact (bneE hg174 (hr164.det3 hr58)).elim) | (exact absurd (hr164.det3 hr58) hp174) | (exact absurd (hr164.det3 hr58) (of_decide_eq_false hg174)) | (exact (bneE hg174 (hr164.det1 hr58)).elim) | (exact absurd (hr164.det1 hr58) hp174) | (exact absurd (hr164.det1 hr58) (of_decide_eq_false hg174)) | (exact (bneE hg174 (hr164.det2 hr58)).elim) | (exact absurd (hr164.det2 hr58) hp174) | (exact absurd (hr164.det2 hr58) (of_decide_eq_false hg174)) | (exact (bneE hg174 (hr164.det3 hr58)).elim) | (exact absurd (hr164.det3 hr58) hp174) | (exact absurd (hr164.det3 hr58) (of_decide_eq_false hg174)) | (exact (bneE hg174 (hr164.det1 hr58)).elim) | (exact absurd (hr164.det1 hr58) hp174) | (exact absurd (hr164.det1 hr58) (of_decide_eq_false hg174)) | (exact (bneE hg174 (hr164.det2 hr58)).elim) | (exact absurd (hr164.det2 hr58) hp174) | (exact absurd (hr164.det2 hr58) (of_decide_eq_false hg174)) | (exact (bneE hg174 (hr164.det3 hr58)).elim) | (exact absurd (hr164.det3 hr58) hp174) | (exact absurd (hr164.det3 hr58) (of_decide_eq_false hg174)) | (exact (bneE hg174 (hr164.det1 hr58)).elim) | (exact absurd (hr164.det1 hr58) hp174) | (exact absurd (hr164.det1 hr58) (of_decide_eq_false hg174)) | (exact (bneE hg174 (hr164.det2 hr58)).elim) | (exact absurd (hr164.det2 hr58) hp174) | (exact absurd (hr164.det2 hr58) (of_decide_eq_false hg174)) | (exact (bneE hg174 (hr164.det3 hr58)).elim) | (exact absurd (hr164.det3 hr58) hp174) | (exact absurd (hr164.det3 hr58) (of_decide_eq_false hg174)) | (exact (bneE hg174 (hr164.det1 hr58)).elim) | (exact absurd (hr164.det1 hr58) hp174) | (exact absurd (hr164.det1 hr58) (of_decide_eq_false hg174)) | (exact (bneE hg174 (hr164.det2 hr58)).elim) | (exact absurd (hr164.det2 hr58) hp174) | (exact absurd (hr164.det2 hr58) (of_decide_eq_false hg174)) | (exact (bneE hg174 (hr164.det3 hr58)).elim) | (exact absurd (hr164.det3 hr58) hp174) | (exact absurd (hr164.det3 hr58) (of_decide_eq_false hg174)) | (exact (bneE hg174 (hr164.det1 hr58)).elim) | (exact absurd (hr164.det1 hr58) hp174) | (exact absurd (hr164.det1 hr58) (of_decide_eq_false hg174)) | (exact (bneE hg174 (hr164.det2 hr58)).elim) | (exact absurd (hr164.det2 hr58) hp174) | (exact absurd (hr164.det2 hr58) (of_decide_eq_false hg174)) | (exact (bneE hg174 (hr164.det3 hr58)).elim) | (exact absurd (hr164.det3 hr58) hp174) | (exact absurd (hr164.det3 hr58) (of_decide_eq_false hg174)) | (exact (bneE hg174 (hr77.det1 hr58)).elim) | (exact absurd (hr77.det1 hr58) hp174) | (exact absurd (hr77.det1 hr58) (of_decide_eq_false hg174)) | (exact (bneE hg174 (hr77.det2 hr58)).elim) | (exact absurd (hr77.det2 hr58) hp174) | (exact absurd (hr77.det2 hr58) (of_decide_eq_false hg174)) | (exact (bneE hg174 (hr77.det3 hr58)).elim) | (exact absurd (hr77.det3 hr58) hp174) | (exact absurd (hr77.det3 hr58) (of_decide_eq_false hg174)) | (exact (tfX hg174).elim) | (exact (decF hg174).elim) | (exfalso; omega)
                                      · refine W_skip ?_
                                        refine thenE_n ?_
                                        refine W_seq ?_
                                        refine W_region ?_
                                        refine WL_q rfl (ev_assign rfl) ?_
                                        refine WL_nil ?_
                                        refine thenE_n ?_
                                        refine W_seq ?_
                                        refine W_region ?_
                                        refine WL_q rfl (ev_loads st31 sz31 rfl (cellsB hB19) rfl) ?_
                                        refine WL_q rfl (ev_move rfl) ?_
                                        refine WL_m rfl (ev_call rfl (heldNetwork_net _ U58 _ _ hO77.is (by omega) (by omega))) ?_
                                        rintro _ w178 ⟨rfl, hE178⟩
                                        have hz178 := hE178.size
                                        replace hE := hE.trans hE178
                                        replace hA := hA.ext hE178
                                        replace hB := hB.ext hE178
                                        replace hD := hD.ext hE178
                                        replace hff := hff.ext hE178
                                        replace hgg := hgg.ext hE178
                                        replace hB5 := hB5.ext hE178
                                        replace hB6 := hB6.ext hE178
                                        replace hB7 := hB7.ext hE178
                                        replace hB12 := hB12.ext hE178
                                        replace hN58 := hN58.ext hE178
                                        replace hB14 := hB14.ext hE178
                                        replace hB15 := hB15.ext hE178
                                        replace hB16 := hB16.ext hE178
                                        replace hO77 := hO77.ext hE178
                                        replace hB19 := hB19.ext hE178
                                        replace hF91 := hF91.ext hE178
                                        replace hN91 := hN91.ext hE178
                                        replace hF96 := hF96.ext hE178
                                        replace hN96 := hN96.ext hE178
                                        replace hF101 := hF101.ext hE178
                                        replace hN101 := hN101.ext hE178
                                        replace hF106 := hF106.ext hE178
                                        replace hI106 := hI106.ext hE178
                                        replace hF111 := hF111.ext hE178
                                        replace hI111 := hI111.ext hE178
                                        replace hB24 := hB24.ext hE178
                                        replace hO164 := hO164.ext hE178
                                        refine WL_q rfl (ev_assign rfl) ?_
                                        refine WL_nil ?_
                                        refine thenE_n ?_
                                        refine W_seq ?_
                                        refine W_seq ?_
                                        refine W_region ?_
                                        refine WL_q rfl (ev_move rfl) ?_
                                        refine WL_q rfl (ev_lss rfl rfl) ?_
                                        refine WL_nil ?_
                                        refine thenE_n ?_
                                        refine W_cond rfl (fun hg180 => ?_) (fun hg180 => ?_)
                                        · have hp180 := of_decide_eq_true hg180
                                          refine W_seq ?_
                                          refine W_region ?_
                                          refine WL_q rfl (ev_assign rfl) ?_
                                          refine WL_nil ?_
                                          refine thenE_n ?_
                                          refine W_ret ?_
                                          refine thenE_r ?_
                                          refine ret1 rfl rfl ?_
                                          first | (exact ⟨rfl, hE⟩) | (exact (bneE hg180 (hr164.det1 hr58)).elim) | (exact absurd (hr164.det1 hr58) hp180) | (exact absurd (hr164.det1 hr58) (of_decide_eq_false hg180)) | (exact (bneE hg180 (hr164.det2 hr58)).elim) | (exact absurd (hr164.det2 hr58) hp180) | (exact absurd (hr164.det2 hr58) (of_decide_eq_false hg180)) | (exact (bneE hg180 (hr164.det3 hr58)).elim) | (exact absurd (hr164.det3 hr58) hp180) | (exact absurd (hr164.det3 hr58) (of_decide_eq_false hg180)) | (exact (bneE hg180 (hr164.det1 hr58)).elim) | (exact absurd (hr164.det1 hr58) hp180) | (exact absurd (hr164.det1 hr58) (of_decide_eq_false hg180)) | (exact (bneE hg180 (hr164.det2 hr58)).elim) | (exact absurd (hr164.det2 hr58) hp180) | (exact absurd (hr164.det2 hr58) (of_decide_eq_false hg180)) | (exact (bneE hg180 (hr164.det3 hr58)).elim) | (exact absurd (hr164.det3 hr58) hp180) | (exact absurd (hr164.det3 hr58) (of_decide_eq_false hg180)) | (exact (bneE hg180 (hr164.det1 hr58)).elim) | (exact absurd (hr164.det1 hr58) hp180) | (exact absurd (hr164.det1 hr58) (of_decide_eq_false hg180)) | (exact (bneE hg180 (hr164.det2 hr58)).elim) | (exact absurd (hr164.det2 hr58) hp180) | (exact absurd (hr164.det2 hr58) (of_decide_eq_false hg180)) | (exact (bneE hg180 (hr164.det3 hr58)).elim) | (exact absurd (hr164.det3 hr58) hp180) | (exact absurd (hr164.det3 hr58) (of_decide_eq_false hg180)) | (exact (bneE hg180 (hr164.det1 hr58)).elim) | (exact absurd (hr164.det1 hr58) hp180) | (exact absurd (hr164.det1 hr58) (of_decide_eq_false hg180)) | (exact (bneE hg180 (hr164.det2 hr58)).elim) | (exact absurd (hr164.det2 hr58) hp180) | (exact absurd (hr164.det2 hr58) (of_decide_eq_false hg180)) | (exact (bneE hg180 (hr164.det3 hr58)).elim) | (exact absurd (hr164.det3 hr58) hp180) | (exact absurd (hr164.det3 hr58) (of_decide_eq_false hg180)) | (exact (bneE hg180 (hr164.det1 hr58)).elim) | (exact absurd (hr164.det1 hr58) hp180) | (exact absurd (hr164.det1 hr58) (of_decide_eq_false hg180)) | (exact (bneE hg180 (hr164.det2 hr58)).elim) | (exact absurd (hr164.det2 hr58) hp180) | (exact absurd (hr164.det2 hr58) (of_decide_eq_false hg180)) | (exact (bneE hg180 (hr164.det3 hr58)).elim) | (exact absurd (hr164.det3 hr58) hp180) | (exact absurd (hr164.det3 hr58) (of_decide_eq_false hg180)) | (exact (bneE hg180 (hr164.det1 hr58)).elim) | (exact absurd (hr164.det1 hr58) hp180) | (exact absurd (hr164.det1 hr58) (of_decide_eq_false hg180)) | (exact (bneE hg180 (hr164.det2 hr58)).elim) | (exact absurd (hr164.det2 hr58) hp180) | (exact absurd (hr164.det2 hr58) (of_decide_eq_false hg180)) | (exact (bneE hg180 (hr164.det3 hr58)).elim) | (exact absurd (hr164.det3 hr58) hp180) | (exact absurd (hr164.det3 hr58) (of_decide_eq_false hg180)) | (exact (bneE hg180 (hr164.det1 hr58)).elim) | (exact absurd (hr164.det1 hr58) hp180) | (exact absurd (hr164.det1 hr58) (of_decide_eq_false hg180)) | (exact (bneE hg180 (hr164.det2 hr58)).elim) | (exact absurd (hr164.det2 hr58) hp180) | (exact absurd (hr164.det2 hr58) (of_decide_eq_false hg180)) | (exact (bneE hg180 (hr164.det3 hr58)).elim) | (exact absurd (hr164.det3 hr58) hp180) | (exact absurd (hr164.det3 hr58) (of_decide_eq_false hg180)) | (exact (bneE hg180 (hr77.det1 hr58)).elim) | (exact absurd (hr77.det1 hr58) hp180) | (exact absurd (hr77.det1 hr58) (of_decide_eq_false hg180)) | (exact (bneE hg180 (hr77.det2 hr58)).elim) | (exact absurd (hr77.det2 hr58) hp180) | (exact absurd (hr77.det2 hr58) (of_decide_eq_false hg180)) | (exact (bneE hg180 (hr77.det3 hr58)).elim) | (exact absurd (hr77.det3 hr58) hp180) | (exact absurd (hr77.det3 hr58) (of_decide_eq_false hg180)) | (exact (tfX hg180).elim) | (exact (decF hg180).elim) | (exfalso; omega)
                                        · have hp180 := of_decide_eq_false hg180
                                          refine W_skip ?_
                                          refine thenE_n ?_
                                          refine W_seq ?_
                                          refine W_seq ?_
                                          refine W_region ?_
                                          refine WL_q rfl (ev_move rfl) ?_
                                          refine WL_q rfl (ev_move rfl) ?_
                                          refine WL_q rfl (ev_neq rfl rfl) ?_
                                          refine WL_nil ?_
                                          refine thenE_n ?_
                                          refine W_cond rfl (fun hg183 => ?_) (fun hg183 => ?_)
                                          · have hp183 := of_decide_eq_true hg183
                                            refine W_seq ?_
                                            refine W_region ?_
                                            refine WL_q rfl (ev_assign rfl) ?_
                                            refine WL_nil ?_
                                            refine thenE_n ?_
                                            refine W_ret ?_
                                            refine thenE_r ?_
                                            refine ret1 rfl rfl ?_
                                            first | (exact ⟨rfl, hE⟩) | (exact (bneE hg183 (hr164.det1 hr58)).elim) | (exact absurd (hr164.det1 hr58) hp183) | (exact absurd (hr164.det1 hr58) (of_decide_eq_false hg183)) | (exact (bneE hg183 (hr164.det2 hr58)).elim) | (exact absurd (hr164.det2 hr58) hp183) | (exact absurd (hr164.det2 hr58) (of_decide_eq_false hg183)) | (exact (bneE hg183 (hr164.det3 hr58)).elim) | (exact absurd (hr164.det3 hr58) hp183) | (exact absurd (hr164.det3 hr58) (of_decide_eq_false hg183)) | (exact (bneE hg183 (hr164.det1 hr58)).elim) | (exact absurd (hr164.det1 hr58) hp183) | (exact absurd (hr164.det1 hr58) (of_decide_eq_false hg183)) | (exact (bneE hg183 (hr164.det2 hr58)).elim) | (exact absurd (hr164.det2 hr58) hp183) | (exact absurd (hr164.det2 hr58) (of_decide_eq_false hg183)) | (exact (bneE hg183 (hr164.det3 hr58)).elim) | (exact absurd (hr164.det3 hr58) hp183) | (exact absurd (hr164.det3 hr58) (of_decide_eq_false hg183)) | (exact (bneE hg183 (hr164.det1 hr58)).elim) | (exact absurd (hr164.det1 hr58) hp183) | (exact absurd (hr164.det1 hr58) (of_decide_eq_false hg183)) | (exact (bneE hg183 (hr164.det2 hr58)).elim) | (exact absurd (hr164.det2 hr58) hp183) | (exact absurd (hr164.det2 hr58) (of_decide_eq_false hg183)) | (exact (bneE hg183 (hr164.det3 hr58)).elim) | (exact absurd (hr164.det3 hr58) hp183) | (exact absurd (hr164.det3 hr58) (of_decide_eq_false hg183)) | (exact (bneE hg183 (hr164.det1 hr58)).elim) | (exact absurd (hr164.det1 hr58) hp183) | (exact absurd (hr164.det1 hr58) (of_decide_eq_false hg183)) | (exact (bneE hg183 (hr164.det2 hr58)).elim) | (exact absurd (hr164.det2 hr58) hp183) | (exact absurd (hr164.det2 hr58) (of_decide_eq_false hg183)) | (exact (bneE hg183 (hr164.det3 hr58)).elim) | (exact absurd (hr164.det3 hr58) hp183) | (exact absurd (hr164.det3 hr58) (of_decide_eq_false hg183)) | (exact (bneE hg183 (hr164.det1 hr58)).elim) | (exact absurd (hr164.det1 hr58) hp183) | (exact absurd (hr164.det1 hr58) (of_decide_eq_false hg183)) | (exact (bneE hg183 (hr164.det2 hr58)).elim) | (exact absurd (hr164.det2 hr58) hp183) | (exact absurd (hr164.det2 hr58) (of_decide_eq_false hg183)) | (exact (bneE hg183 (hr164.det3 hr58)).elim) | (exact absurd (hr164.det3 hr58) hp183) | (exact absurd (hr164.det3 hr58) (of_decide_eq_false hg183)) | (exact (bneE hg183 (hr164.det1 hr58)).elim) | (exact absurd (hr164.det1 hr58) hp183) | (exact absurd (hr164.det1 hr58) (of_decide_eq_false hg183)) | (exact (bneE hg183 (hr164.det2 hr58)).elim) | (exact absurd (hr164.det2 hr58) hp183) | (exact absurd (hr164.det2 hr58) (of_decide_eq_false hg183)) | (exact (bneE hg183 (hr164.det3 hr58)).elim) | (exact absurd (hr164.det3 hr58) hp183) | (exact absurd (hr164.det3 hr58) (of_decide_eq_false hg183)) | (exact (bneE hg183 (hr164.det1 hr58)).elim) | (exact absurd (hr164.det1 hr58) hp183) | (exact absurd (hr164.det1 hr58) (of_decide_eq_false hg183)) | (exact (bneE hg183 (hr164.det2 hr58)).elim) | (exact absurd (hr164.det2 hr58) hp183) | (exact absurd (hr164.det2 hr58) (of_decide_eq_false hg183)) | (exact (bneE hg183 (hr164.det3 hr58)).elim) | (exact absurd (hr164.det3 hr58) hp183) | (exact absurd (hr164.det3 hr58) (of_decide_eq_false hg183)) | (exact (bneE hg183 (hr77.det1 hr58)).elim) | (exact absurd (hr77.det1 hr58) hp183) | (exact absurd (hr77.det1 hr58) (of_decide_eq_false hg183)) | (exact (bneE hg183 (hr77.det2 hr58)).elim) | (exact absurd (hr77.det2 hr58) hp183) | (exact absurd (hr77.det2 hr58) (of_decide_eq_false hg183)) | (exact (bneE hg183 (hr77.det3 hr58)).elim) | (exact absurd (hr77.det3 hr58) hp183) | (exact absurd (hr77.det3 hr58) (of_decide_eq_false hg183)) | (exact (tfX hg183).elim) | (exact (decF hg183).elim) | (exfalso; omega)
                                          · have hp183 := of_decide_eq_false hg183
                                            refine W_skip ?_
                                            refine thenE_n ?_
                                            refine W_seq ?_
                                            refine W_region ?_
                                            refine WL_q rfl (ev_assign rfl) ?_
                                            refine WL_nil ?_
                                            refine thenE_n ?_
                                            refine W_ret ?_
                                            refine ret1 rfl rfl ?_
                                            first | (exact ⟨rfl, hE⟩) | (exact (bneE hg183 (hr164.det1 hr58)).elim) | (exact absurd (hr164.det1 hr58) hp183) | (exact absurd (hr164.det1 hr58) (of_decide_eq_false hg183)) | (exact (bneE hg183 (hr164.det2 hr58)).elim) | (exact absurd (hr164.det2 hr58) hp183) | (exact absurd (hr164.det2 hr58) (of_decide_eq_false hg183)) | (exact (bneE hg183 (hr164.det3 hr58)).elim) | (exact absurd (hr164.det3 hr58) hp183) | (exact absurd (hr164.det3 hr58) (of_decide_eq_false hg183)) | (exact (bneE hg183 (hr164.det1 hr58)).elim) | (exact absurd (hr164.det1 hr58) hp183) | (exact absurd (hr164.det1 hr58) (of_decide_eq_false hg183)) | (exact (bneE hg183 (hr164.det2 hr58)).elim) | (exact absurd (hr164.det2 hr58) hp183) | (exact absurd (hr164.det2 hr58) (of_decide_eq_false hg183)) | (exact (bneE hg183 (hr164.det3 hr58)).elim) | (exact absurd (hr164.det3 hr58) hp183) | (exact absurd (hr164.det3 hr58) (of_decide_eq_false hg183)) | (exact (bneE hg183 (hr164.det1 hr58)).elim) | (exact absurd (hr164.det1 hr58) hp183) | (exact absurd (hr164.det1 hr58) (of_decide_eq_false hg183)) | (exact (bneE hg183 (hr164.det2 hr58)).elim) | (exact absurd (hr164.det2 hr58) hp183) | (exact absurd (hr164.det2 hr58) (of_decide_eq_false hg183)) | (exact (bneE hg183 (hr164.det3 hr58)).elim) | (exact absurd (hr164.det3 hr58) hp183) | (exact absurd (hr164.det3 hr58) (of_decide_eq_false hg183)) | (exact (bneE hg183 (hr164.det1 hr58)).elim) | (exact absurd (hr164.det1 hr58) hp183) | (exact absurd (hr164.det1 hr58) (of_decide_eq_false hg183)) | (exact (bneE hg183 (hr164.det2 hr58)).elim) | (exact absurd (hr164.det2 hr58) hp183) | (exact absurd (hr164.det2 hr58) (of_decide_eq_false hg183)) | (exact (bneE hg183 (hr164.det3 hr58)).elim) | (exact absurd (hr164.det3 hr58) hp183) | (exact absurd (hr164.det3 hr58) (of_decide_eq_false hg183)) | (exact (bneE hg183 (hr164.det1 hr58)).elim) | (exact absurd (hr164.det1 hr58) hp183) | (exact absurd (hr164.det1 hr58) (of_decide_eq_false hg183)) | (exact (bneE hg183 (hr164.det2 hr58)).elim) | (exact absurd (hr164.det2 hr58) hp183) | (exact absurd (hr164.det2 hr58) (of_decide_eq_false hg183)) | (exact (bneE hg183 (hr164.det3 hr58)).elim) | (exact absurd (hr164.det3 hr58) hp183) | (exact absurd (hr164.det3 hr58) (of_decide_eq_false hg183)) | (exact (bneE hg183 (hr164.det1 hr58)).elim) | (exact absurd (hr164.det1 hr58) hp183) | (exact absurd (hr164.det1 hr58) (of_decide_eq_false hg183)) | (exact (bneE hg183 (hr164.det2 hr58)).elim) | (exact absurd (hr164.det2 hr58) hp183) | (exact absurd (hr164.det2 hr58) (of_decide_eq_false hg183)) | (exact (bneE hg183 (hr164.det3 hr58)).elim) | (exact absurd (hr164.det3 hr58) hp183) | (exact absurd (hr164.det3 hr58) (of_decide_eq_false hg183)) | (exact (bneE hg183 (hr164.det1 hr58)).elim) | (exact absurd (hr164.det1 hr58) hp183) | (exact absurd (hr164.det1 hr58) (of_decide_eq_false hg183)) | (exact (bneE hg183 (hr164.det2 hr58)).elim) | (exact absurd (hr164.det2 hr58) hp183) | (exact absurd (hr164.det2 hr58) (of_decide_eq_false hg183)) | (exact (bneE hg183 (hr164.det3 hr58)).elim) | (exact absurd (hr164.det3 hr58) hp183) | (exact absurd (hr164.det3 hr58) (of_decide_eq_false hg183)) | (exact (bneE hg183 (hr77.det1 hr58)).elim) | (exact absurd (hr77.det1 hr58) hp183) | (exact absurd (hr77.det1 hr58) (of_decide_eq_false hg183)) | (exact (bneE hg183 (hr77.det2 hr58)).elim) | (exact absurd (hr77.det2 hr58) hp183) | (exact absurd (hr77.det2 hr58) (of_decide_eq_false hg183)) | (exact (bneE hg183 (hr77.det3 hr58)).elim) | (exact absurd (hr77.det3 hr58) hp183) | (exact absurd (hr77.det3 hr58) (of_decide_eq_false hg183)) | (exact (tfX hg183).elim) | (exact (decF hg183).elim) | (exfalso; omega)

end Go.Proofs.Ytladejfcplpnaaa
