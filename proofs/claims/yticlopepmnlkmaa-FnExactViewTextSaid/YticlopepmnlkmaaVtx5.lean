/- Contract of impl.ViewText, and the walk of FnExactViewText. -/
import Derived.Test.YticlopepmnlkmaaVtx4
namespace Go.Proofs.Yticlopepmnlkmaa
open Go Go.RowKit

theorem writeView_all {loA hiA : Nat} (nA : NA) (A : Net) (hkA : NOk A) : ∀ n : Nat, ∀ t : Int, 0 ≤ t ∧ t ≤ 80 → t.toNat = n → WVS A nA loA hiA t := by
  intro n
  induction n using Nat.strongRecOn with
  | ind n ih =>
    intro t ht hn v lo b g l w hA hh hlo hv hv2 hb hlen
    exact writeView_step nA A t v lo b g l w (fun t' h1 h2 => ih t'.toNat (by omega) t' ⟨h1, by omega⟩ rfl) hkA ht hA hh hlo hv hv2 hb hlen

set_option maxHeartbeats 1000000 in
set_option maxRecDepth 100000 in
theorem iViewText_spec {loA hiA : Nat} (nA : NA) (A : Net) (v : Int) (d : Int) (w : World) (hA : IsNet loA hiA w nA A) (hhiA : hiA ≤ w.heap.size) (hnA : totN A ≤ 1048576) :
    Fn Try.prog 7 #[netV nA A, VI v, VI d] w (fun o9 w' => ∃ s q, o9 = .tuple #[.string (bs s), VB q] ∧ RV ([] : List UInt8) (opt (VTOk A v d) (txtV A d.toNat v.toNat)) s q ∧ Ext w w') := by
  have hqA := totL_len A.ends
  have hmA : totL A.ends + A.ids.length + A.inputs.length ≤ 1048576 := hnA
  have hE := Ext.refl w
  refine Fn_of Try.func7 rfl rfl (by kernel_rfl) rfl ?_
  refine W_seq ?_
  refine W_region ?_
  refine WL_m rfl (ev_box rfl) ?_
  rintro _ w3 ⟨rfl, hN3⟩
  have hz3 := hN3.size
  replace hE := hE.trans hN3.ext
  replace hA := hA.ext hN3.ext
  have hB3 : Blk w3 _ _ [_, _, _] := hN3.blk
  refine WL_q rfl (ev_assign rfl) ?_
  refine WL_q rfl (ev_assign rfl) ?_
  refine WL_nil ?_
  refine thenE_n ?_
  refine W_seq ?_
  refine W_seq ?_
  refine W_region ?_
  refine WL_q rfl (ev_loads st31 sz31 rfl (cellsB hB3) rfl) ?_
  refine WL_m rfl (ev_call rfl (IsNetwork_spec _ A _ hA (by omega) (by omega))) ?_
  rintro _ w11 ⟨b11, rfl, hb11, hE11⟩
  have hz11 := hE11.size
  replace hE := hE.trans hE11
  replace hA := hA.ext hE11
  replace hB3 := hB3.ext hE11
  refine WL_q rfl (ev_not rfl) ?_
  refine WL_q rfl (ev_move rfl) ?_
  refine WL_splitv (t := 13) rfl (fun hg12 => ?_) (fun hg12 => ?_)
  · have hg11 := not_true hg12
    have hp11 := ttN hb11 hg11
    refine WL_no rfl rfl hg12 rfl ?_
    refine WL_no rfl rfl hg12 rfl ?_
    refine WL_no rfl rfl hg12 rfl ?_
    refine WL_no rfl rfl hg12 rfl ?_
    refine WL_q rfl (ev_pick_t rfl hg12 rfl) ?_
    refine WL_q rfl (ev_move rfl) ?_
    refine WL_no rfl rfl rfl rfl ?_
    refine WL_no rfl rfl rfl rfl ?_
    refine WL_no rfl rfl rfl rfl ?_
    refine WL_q rfl (ev_pick_t rfl rfl rfl) ?_
    refine WL_nil ?_
    refine thenE_n ?_
    refine W_cond_t rfl ?_
    refine W_seq ?_
    refine W_region ?_
    refine WL_q rfl (ev_assign rfl) ?_
    refine WL_q rfl (ev_assign rfl) ?_
    refine WL_nil ?_
    refine thenE_n ?_
    refine W_ret ?_
    refine thenE_r ?_
    refine ret2 rfl rfl rfl ?_
    first | (exact ⟨[], _, rfl, .no fun h => hp11 h.1.1, hE⟩) | (exact ⟨[], _, rfl, .no fun h => hp16 h.1.2, hE⟩) | (exact ⟨[], _, rfl, .no fun h => hp21 h.2.1, hE⟩) | (exact ⟨[], _, rfl, .no fun h => (by have h9 := h.2.2; omega), hE⟩) | (exact ⟨_, _, by rw [List.nil_append], .yes ⟨⟨hkA, hp16⟩, hp21, by omega⟩ rfl, hE⟩)
  · have hg11 := not_false hg12
    have hp11 := hb11.1 hg11
    refine WL_qg rfl rfl hg12 rfl (ev_loads st31 sz31 rfl (cellsB hB3) rfl) ?_
    refine WL_qg rfl rfl hg12 rfl (ev_move rfl) ?_
    refine WL_mg rfl rfl hg12 rfl (ev_call rfl (hasNode_spec _ A _ _ (by omega))) ?_
    rintro _ w16 ⟨b16, rfl, hb16, hE16⟩
    have hz16 := hE16.size
    replace hE := hE.trans hE16
    replace hA := hA.ext hE16
    replace hB3 := hB3.ext hE16
    refine WL_qg rfl rfl hg12 rfl (ev_not rfl) ?_
    refine WL_q rfl (ev_pick_f rfl hg12 rfl) ?_
    refine WL_q rfl (ev_move rfl) ?_
    refine WL_splitv (t := 19) rfl (fun hg17 => ?_) (fun hg17 => ?_)
    · have hg16 := not_true hg17
      have hp16 := ttN hb16 hg16
      refine WL_no rfl rfl hg17 rfl ?_
      refine WL_no rfl rfl hg17 rfl ?_
      refine WL_no rfl rfl hg17 rfl ?_
      refine WL_q rfl (ev_pick_t rfl hg17 rfl) ?_
      refine WL_nil ?_
      refine thenE_n ?_
      refine W_cond_t rfl ?_
      refine W_seq ?_
      refine W_region ?_
      refine WL_q rfl (ev_assign rfl) ?_
      refine WL_q rfl (ev_assign rfl) ?_
      refine WL_nil ?_
      refine thenE_n ?_
      refine W_ret ?_
      refine thenE_r ?_
      refine ret2 rfl rfl rfl ?_
      first | (exact ⟨[], _, rfl, .no fun h => hp11 h.1.1, hE⟩) | (exact ⟨[], _, rfl, .no fun h => hp16 h.1.2, hE⟩) | (exact ⟨[], _, rfl, .no fun h => hp21 h.2.1, hE⟩) | (exact ⟨[], _, rfl, .no fun h => (by have h9 := h.2.2; omega), hE⟩) | (exact ⟨_, _, by rw [List.nil_append], .yes ⟨⟨hkA, hp16⟩, hp21, by omega⟩ rfl, hE⟩)
    · have hg16 := not_false hg17
      have hp16 := hb16.1 hg16
      refine WL_qg rfl rfl hg17 rfl (ev_move rfl) ?_
      refine WL_mg rfl rfl hg17 rfl (ev_call rfl (isDepth_spec _ _)) ?_
      rintro _ _ ⟨rfl, rfl⟩
      refine WL_qg rfl rfl hg17 rfl (ev_not rfl) ?_
      refine WL_q rfl (ev_pick_f rfl hg17 rfl) ?_
      refine WL_nil ?_
      refine thenE_n ?_
      refine W_cond rfl (fun hg22 => ?_) (fun hg22 => ?_)
      · have hg21 := not_true hg22
        have hp21 := inR_false.1 hg21
        refine W_seq ?_
        refine W_region ?_
        refine WL_q rfl (ev_assign rfl) ?_
        refine WL_q rfl (ev_assign rfl) ?_
        refine WL_nil ?_
        refine thenE_n ?_
        refine W_ret ?_
        refine thenE_r ?_
        refine ret2 rfl rfl rfl ?_
        first | (exact ⟨[], _, rfl, .no fun h => hp11 h.1.1, hE⟩) | (exact ⟨[], _, rfl, .no fun h => hp16 h.1.2, hE⟩) | (exact ⟨[], _, rfl, .no fun h => hp21 h.2.1, hE⟩) | (exact ⟨[], _, rfl, .no fun h => (by have h9 := h.2.2; omega), hE⟩) | (exact ⟨_, _, by rw [List.nil_append], .yes ⟨⟨hkA, hp16⟩, hp21, by omega⟩ rfl, hE⟩)
      · have hg21 := not_false hg22
        have hp21 := inR_true.1 hg21
        refine W_skip ?_
        refine thenE_n ?_
        refine W_seq ?_
        refine W_region ?_
        refine WL_q rfl (ev_loads st31 sz31 rfl (cellsB hB3) rfl) ?_
        refine WL_q rfl (ev_move rfl) ?_
        have hkA := hp11
        have hv1 := hp16.1
        have hv2 := hp16.2
        have hd1 := hp21.1
        have hd2 := hp21.2
        have hal := amtV_len (A := A) (t := d.toNat)
        have hag := amt_get (t := d.toNat) hkA hv2 (by omega)
        refine WL_q rfl (ev_makeFunc rfl rfl) ?_
        refine WL_m rfl (ev_call rfl (viewAmounts_spec nA A d _ _ hA (by omega) hkA hp21 hB3)) ?_
        rintro _ w27 ⟨a27, c27, rfl, hI27, hE27⟩
        have hz27 := hE27.size
        replace hE := hE.trans hE27
        replace hA := hA.ext hE27
        replace hB3 := hB3.ext hE27
        refine WL_q rfl (ev_assign rfl) ?_
        refine WL_nil ?_
        refine thenE_n ?_
        refine W_seq ?_
        refine W_seq ?_
        refine W_region ?_
        refine WL_q rfl (ev_move rfl) ?_
        refine WL_q rfl (ev_move rfl) ?_
        refine WL_q rfl (ev_indexAddr Try.underlying23 sz3 rfl rfl (hI27.isSome (by omega)) (by omega) (by omega)) ?_
        refine WL_q rfl (ev_load one3 rfl (hI27.cell (i := v.toNat) (by omega))) ?_
        refine WL_q rfl (ev_gtr rfl rfl) ?_
        refine WL_nil ?_
        refine thenE_n ?_
        refine W_cond rfl (fun hg32 => ?_) (fun hg32 => ?_)
        · have hp32 := of_decide_eq_true hg32
          refine W_seq ?_
          refine W_region ?_
          refine WL_q rfl (ev_assign rfl) ?_
          refine WL_q rfl (ev_assign rfl) ?_
          refine WL_nil ?_
          refine thenE_n ?_
          refine W_ret ?_
          refine thenE_r ?_
          refine ret2 rfl rfl rfl ?_
          first | (exact ⟨[], _, rfl, .no fun h => hp11 h.1.1, hE⟩) | (exact ⟨[], _, rfl, .no fun h => hp16 h.1.2, hE⟩) | (exact ⟨[], _, rfl, .no fun h => hp21 h.2.1, hE⟩) | (exact ⟨[], _, rfl, .no fun h => (by have h9 := h.2.2; omega), hE⟩) | (exact ⟨_, _, by rw [List.nil_append], .yes ⟨⟨hkA, hp16⟩, hp21, by omega⟩ rfl, hE⟩)
        · have hp32 := of_decide_eq_false hg32
          refine W_skip ?_
          refine thenE_n ?_
          refine W_seq ?_
          refine W_region ?_
          refine WL_m rfl (ev_alloc zr51) ?_
          rintro _ w9 ⟨rfl, hN9⟩
          have hz9 := hN9.size
          replace hE := hE.trans hN9.ext
          replace hA := hA.ext hN9.ext
          replace hB3 := hB3.ext hN9.ext
          replace hI27 := hI27.ext hN9.ext
          have hB9 : Blk w9 _ _ [_, _] := hN9.blk
          have hb : BW 51 5 w27.heap.size w27.heap.size w27.heap.size w9 [] := ⟨⟨Nat.le_refl _, Nat.le_refl _, hB9.lt⟩, _, none, 0, hB9, .inl rfl, Own.nil _ _ _ _, fun q hq => by cases hq⟩
          have hne := txtV_pos (A := A) (t := d.toNat) (v := v.toNat)
          refine WL_nil ?_
          refine thenE_n ?_
          refine W_seq ?_
          refine W_region ?_
          refine WL_q rfl (ev_loads st31 sz31 rfl (cellsB hB3) rfl) ?_
          refine WL_q rfl (ev_move rfl) ?_
          refine WL_q rfl (ev_move rfl) ?_
          refine WL_m rfl (ev_call rfl (writeView_all nA A hkA d.toNat d hp21 rfl v w27.heap.size w27.heap.size w27.heap.size [] _ hA (by omega) (by omega) hv1 hv2 hb (by simp only [List.length_nil]; omega))) ?_
          rintro _ w36 ⟨rfl, g36, hb, hg36, hK36⟩
          have hz36 := hK36.size
          replace hE := hE.k2 hK36 (by omega)
          replace hA := hA.k2 hK36 (by omega)
          replace hB3 := hB3.k2 hK36 (by omega)
          have hlw36 := hb.low
          refine WL_nil ?_
          refine thenE_n ?_
          refine W_seq ?_
          refine W_region ?_
          refine WL_m rfl (ev_call rfl (String_spec _ _ _ hb (by intro e; rw [List.nil_append] at e; rw [e] at hne; simp at hne))) ?_
          rintro _ w37 ⟨rfl, hK37⟩
          have hz37 := hK37.size
          replace hE := hE.lo hK37 (by omega)
          replace hA := hA.lo hK37 (by omega)
          replace hB3 := hB3.lo hK37 (by omega)
          refine WL_q rfl (ev_assign rfl) ?_
          refine WL_q rfl (ev_assign rfl) ?_
          refine WL_nil ?_
          refine thenE_n ?_
          refine W_ret ?_
          refine ret2 rfl rfl rfl ?_
          first | (exact ⟨[], _, rfl, .no fun h => hp11 h.1.1, hE⟩) | (exact ⟨[], _, rfl, .no fun h => hp16 h.1.2, hE⟩) | (exact ⟨[], _, rfl, .no fun h => hp21 h.2.1, hE⟩) | (exact ⟨[], _, rfl, .no fun h => (by have h9 := h.2.2; omega), hE⟩) | (exact ⟨_, _, by rw [List.nil_append], .yes ⟨⟨hkA, hp16⟩, hp21, by omega⟩ rfl, hE⟩)

set_option maxRecDepth 100000 in
theorem law_ViewText (nA : NA) (A : Net) (v : Int) (d : Int) (w : World) (hA : IsNet 0 w.heap.size w nA A) (hsA : SmN A) (hiv : I64 v) (hid : I64 d) :
    Fn Try.prog 3 #[netV nA A, VI v, VI d] w (fun v w' => v = VB true ∧ Ext w w') := by
  have hE := Ext.refl w
  refine Fn_of Try.func3 rfl rfl (by kernel_rfl) rfl ?_
  refine W_seq ?_
  refine W_region ?_
  refine WL_m rfl (ev_box rfl) ?_
  rintro _ w3 ⟨rfl, hN3⟩
  have hz3 := hN3.size
  replace hE := hE.trans hN3.ext
  replace hA := hA.ext hN3.ext
  have hB3 : Blk w3 _ _ [_, _, _] := hN3.blk
  refine WL_q rfl (ev_assign rfl) ?_
  refine WL_nil ?_
  refine thenE_n ?_
  refine W_seq ?_
  refine W_region ?_
  refine WL_q rfl (ev_assign rfl) ?_
  refine WL_nil ?_
  refine thenE_n ?_
  refine W_seq ?_
  refine W_region ?_
  refine WL_q rfl (ev_loads st25 sz25 rfl (cellsB hB3) rfl) ?_
  refine WL_q rfl (ev_move rfl) ?_
  refine WL_m rfl (ev_call rfl (szNetwork_spec _ A _ _ hA (by omega) hsA)) ?_
  rintro _ w15 ⟨r15, rfl, hE15, hr15⟩
  have hz15 := hE15.size
  replace hE := hE.trans hE15
  replace hA := hA.ext hE15
  replace hB3 := hB3.ext hE15
  refine WL_q rfl (ev_assign rfl) ?_
  refine WL_nil ?_
  refine thenE_n ?_
  refine W_seq ?_
  refine W_seq ?_
  refine W_region ?_
  refine WL_q rfl (ev_move rfl) ?_
  refine WL_q rfl (ev_lss rfl rfl) ?_
  refine WL_nil ?_
  refine thenE_n ?_
  refine W_cond rfl (fun hg17 => ?_) (fun hg17 => ?_)
  · have hp17 := of_decide_eq_true hg17
    refine W_seq ?_
    refine W_region ?_
    refine WL_q rfl (ev_assign rfl) ?_
    refine WL_nil ?_
    refine thenE_n ?_
    refine W_ret ?_
    refine thenE_r ?_
    refine ret1 rfl rfl ?_
    first | (exact ⟨rfl, hE⟩) | (exact (tfX hg17).elim) | (exact (decF hg17).elim) | (exfalso; omega)
  · have hp17 := of_decide_eq_false hg17
    refine W_skip ?_
    refine thenE_n ?_
    refine W_seq ?_
    refine W_region ?_
    refine WL_q rfl (ev_loads st25 sz25 rfl (cellsB hB3) rfl) ?_
    refine WL_m rfl (ev_call rfl (toNetwork_spec _ A _ hA (by omega) (by omega))) ?_
    rintro _ w20 ⟨h20, rfl, hF20, hE20⟩
    have hz20 := hE20.size
    replace hE := hE.trans hE20
    replace hA := hA.ext hE20
    replace hB3 := hB3.ext hE20
    have hN20 := hF20.is
    refine WL_q rfl (ev_move rfl) ?_
    refine WL_q rfl (ev_move rfl) ?_
    refine WL_m rfl (ev_call rfl (sViewText_spec _ A _ _ _ hN20 (by omega) (by omega))) ?_
    rintro _ w23 ⟨s23, q23, rfl, hr23, hE23⟩
    have hz23 := hE23.size
    replace hE := hE.trans hE23
    replace hA := hA.ext hE23
    replace hB3 := hB3.ext hE23
    replace hF20 := hF20.ext hE23
    replace hN20 := hN20.ext hE23
    refine WL_q rfl (ev_move rfl) ?_
    refine WL_q rfl (ev_extract rfl rfl) ?_
    refine WL_q rfl (ev_extract rfl rfl) ?_
    refine WL_q rfl (ev_assign rfl) ?_
    refine WL_q rfl (ev_assign rfl) ?_
    refine WL_nil ?_
    refine thenE_n ?_
    refine W_seq ?_
    refine W_region ?_
    refine WL_q rfl (ev_loads st25 sz25 rfl (cellsB hB3) rfl) ?_
    refine WL_m rfl (ev_call rfl (toNetwork_spec _ A _ hA (by omega) (by omega))) ?_
    rintro _ w27 ⟨h27, rfl, hF27, hE27⟩
    have hz27 := hE27.size
    replace hE := hE.trans hE27
    replace hA := hA.ext hE27
    replace hB3 := hB3.ext hE27
    replace hF20 := hF20.ext hE27
    replace hN20 := hN20.ext hE27
    have hN27 := hF27.is
    refine WL_m rfl (ev_alloc zr31) ?_
    rintro _ w10 ⟨rfl, hN10⟩
    have hz10 := hN10.size
    replace hE := hE.trans hN10.ext
    replace hA := hA.ext hN10.ext
    replace hB3 := hB3.ext hN10.ext
    replace hF20 := hF20.ext hN10.ext
    replace hN20 := hN20.ext hN10.ext
    replace hF27 := hF27.ext hN10.ext
    replace hN27 := hN27.ext hN10.ext
    have hB10 : Blk w10 _ _ [_, _, _] := hN10.blk
    refine WL_s (ev_stores sz31 rfl rfl rfl (by simp [Value.oneCell']) hB10 (by simp)) ?_
    rintro _ w6_3 hS6_3
    have hz6_3 := hS6_3.size
    replace hE := hE.sto hS6_3 (by omega)
    replace hA := hA.sto hS6_3 (by omega)
    replace hB3 := hB3.sto hS6_3 (by omega)
    replace hF20 := hF20.sto hS6_3 (by omega)
    replace hN20 := hN20.sto hS6_3 (by omega)
    replace hF27 := hF27.sto hS6_3 (by omega)
    replace hN27 := hN27.sto hS6_3 (by omega)
    replace hB10 : Blk w6_3 _ _ [_, _, _] := hS6_3.blk
    refine WL_nil ?_
    refine thenE_n ?_
    refine W_seq ?_
    refine W_region ?_
    refine WL_q rfl (ev_loads st31 sz31 rfl (cellsB hB10) rfl) ?_
    refine WL_q rfl (ev_move rfl) ?_
    refine WL_q rfl (ev_move rfl) ?_
    refine WL_m rfl (ev_call rfl (iViewText_spec _ A _ _ _ hN27 (by omega) (by omega))) ?_
    rintro _ w32 ⟨s32, q32, rfl, hr32, hE32⟩
    have hz32 := hE32.size
    replace hE := hE.trans hE32
    replace hA := hA.ext hE32
    replace hB3 := hB3.ext hE32
    replace hF20 := hF20.ext hE32
    replace hN20 := hN20.ext hE32
    replace hF27 := hF27.ext hE32
    replace hN27 := hN27.ext hE32
    replace hB10 := hB10.ext hE32
    refine WL_q rfl (ev_move rfl) ?_
    refine WL_q rfl (ev_extract rfl rfl) ?_
    refine WL_q rfl (ev_extract rfl rfl) ?_
    refine WL_q rfl (ev_assign rfl) ?_
    refine WL_q rfl (ev_assign rfl) ?_
    refine WL_nil ?_
    refine thenE_n ?_
    refine W_seq ?_
    refine W_seq ?_
    refine W_region ?_
    refine WL_q rfl (ev_move rfl) ?_
    refine WL_q rfl (ev_move rfl) ?_
    refine WL_q rfl (ev_neq_str rfl rfl) ?_
    refine WL_q rfl (ev_move rfl) ?_
    refine WL_splitv (t := 38) rfl (fun hg37 => ?_) (fun hg37 => ?_)
    · have hp37 := of_decide_eq_true hg37
      refine WL_no rfl rfl hg37 rfl ?_
      refine WL_no rfl rfl hg37 rfl ?_
      refine WL_no rfl rfl hg37 rfl ?_
      refine WL_q rfl (ev_pick_t rfl hg37 rfl) ?_
      refine WL_nil ?_
      refine thenE_n ?_
      refine W_cond_t rfl ?_
      refine W_seq ?_
      refine W_region ?_
      refine WL_q rfl (ev_assign rfl) ?_
      refine WL_nil ?_
      refine thenE_n ?_
      refine W_ret ?_
      refine thenE_r ?_
      refine ret1 rfl rfl ?_
      first | (exact ⟨rfl, hE⟩) | (exact (bneE hg37 (hr32.det1 hr23)).elim) | (exact absurd (hr32.det1 hr23) hp37) | (exact absurd (hr32.det1 hr23) (of_decide_eq_false hg37)) | (exact (bneE hg37 (hr32.det2 hr23)).elim) | (exact absurd (hr32.det2 hr23) hp37) | (exact absurd (hr32.det2 hr23) (of_decide_eq_false hg37)) | (exact (bneE hg37 (hr32.det3 hr23)).elim) | (exact absurd (hr32.det3 hr23) hp37) | (exact absurd (hr32.det3 hr23) (of_decide_eq_false hg37)) | (exact (tfX hg37).elim) | (exact (decF hg37).elim) | (exfalso; omega)
    · have hp37 := of_decide_eq_false hg37
      refine WL_qg rfl rfl hg37 rfl (ev_move rfl) ?_
      refine WL_qg rfl rfl hg37 rfl (ev_move rfl) ?_
      refine WL_qg rfl rfl hg37 rfl (ev_neq_b Try.underlying4 rfl rfl) ?_
      refine WL_q rfl (ev_pick_f rfl hg37 rfl) ?_
      refine WL_nil ?_
      refine thenE_n ?_
      refine W_cond rfl (fun hg41 => ?_) (fun hg41 => ?_)
      · refine W_seq ?_
        refine W_region ?_
        refine WL_q rfl (ev_assign rfl) ?_
        refine WL_nil ?_
        refine thenE_n ?_
        refine W_ret ?_
        refine thenE_r ?_
        refine ret1 rfl rfl ?_
        first | (exact ⟨rfl, hE⟩) | (exact (bneE hg41 (hr32.det1 hr23)).elim) | (exact absurd (hr32.det1 hr23) hp41) | (exact absurd (hr32.det1 hr23) (of_decide_eq_false hg41)) | (exact (bneE hg41 (hr32.det2 hr23)).elim) | (exact absurd (hr32.det2 hr23) hp41) | (exact absurd (hr32.det2 hr23) (of_decide_eq_false hg41)) | (exact (bneE hg41 (hr32.det3 hr23)).elim) | (exact absurd (hr32.det3 hr23) hp41) | (exact absurd (hr32.det3 hr23) (of_decide_eq_false hg41)) | (exact (tfX hg41).elim) | (exact (decF hg41).elim) | (exfalso; omega)
      · refine W_skip ?_
        refine thenE_n ?_
        refine W_seq ?_
        refine W_seq ?_
        refine W_drawE [(0, true), (1, true), (2, false), (3, false), (4, true)] mixed (by kernel_rfl) rfl (by kernel_rfl) ?_
        intro wd10 hEd10 hzd10
        replace hE := hE.trans hEd10
        replace hA := hA.ext hEd10
        replace hB3 := hB3.ext hEd10
        replace hF20 := hF20.ext hEd10
        replace hN20 := hN20.ext hEd10
        replace hF27 := hF27.ext hEd10
        replace hN27 := hN27.ext hEd10
        replace hB10 := hB10.ext hEd10
        have hDd10 := Ext.refl wd10
        refine PW_q rfl rfl (fun wq hq => ev_loads st31 sz31 rfl (cellsB (hq.blk hB10)) rfl) ?_
        refine PW_q rfl rfl (fun wq hq => ev_loads st25 sz25 rfl (cellsB (hq.blk hB3)) rfl) ?_
        refine PW_m rfl rfl (ev_call rfl (toNetwork_spec _ A _ hA (by omega) (by omega))) ?_
        rintro _ w45 ⟨h45, rfl, hF45, hE45⟩
        have hz45 := hE45.size
        replace hE := hE.trans hE45
        replace hDd10 := hDd10.trans hE45
        have hN45 := hF45.is
        refine ⟨hDd10, ?_⟩
        have hA_3 := hA.ext hDd10
        have hB3_3 := hB3.ext hDd10
        have hF20_3 := hF20.ext hDd10
        have hN20_3 := hN20.ext hDd10
        have hF27_3 := hF27.ext hDd10
        have hN27_3 := hN27.ext hDd10
        have hB10_3 := hB10.ext hDd10
        refine PW_m rfl rfl (ev_call rfl (eqNetwork_spec _ _ A _ hN27_3 hN45 (by omega))) ?_
        rintro _ w46 ⟨rfl, hE46⟩
        have hz46 := hE46.size
        replace hE := hE.trans hE46
        replace hDd10 := hDd10.trans hE46
        replace hF45 := hF45.ext hE46
        replace hN45 := hN45.ext hE46
        refine ⟨hDd10, ?_⟩
        refine PW_q rfl rfl (fun wq hq => ev_not rfl) ?_
        replace hA := hA.ext hDd10
        replace hB3 := hB3.ext hDd10
        replace hF20 := hF20.ext hDd10
        replace hN20 := hN20.ext hDd10
        replace hF27 := hF27.ext hDd10
        replace hN27 := hN27.ext hDd10
        replace hB10 := hB10.ext hDd10
        refine PW_nil ?_
        refine thenE_n ?_
        refine W_cond rfl (fun hg47 => ?_) (fun hg47 => ?_)
        · have hg46 := not_true hg47
          refine W_seq ?_
          refine W_region ?_
          refine WL_q rfl (ev_assign rfl) ?_
          refine WL_nil ?_
          refine thenE_n ?_
          refine W_ret ?_
          refine thenE_r ?_
          refine ret1 rfl rfl ?_
          first | (exact ⟨rfl, hE⟩) | (exact (bneE hg46 (hr32.det1 hr23)).elim) | (exact absurd (hr32.det1 hr23) hp46) | (exact absurd (hr32.det1 hr23) (of_decide_eq_false hg46)) | (exact (bneE hg46 (hr32.det2 hr23)).elim) | (exact absurd (hr32.det2 hr23) hp46) | (exact absurd (hr32.det2 hr23) (of_decide_eq_false hg46)) | (exact (bneE hg46 (hr32.det3 hr23)).elim) | (exact absurd (hr32.det3 hr23) hp46) | (exact absurd (hr32.det3 hr23) (of_decide_eq_false hg46)) | (exact (tfX hg46).elim) | (exact (decF hg46).elim) | (exfalso; omega)
        · have hg46 := not_false hg47
          refine W_skip ?_
          refine thenE_n ?_
          refine W_seq ?_
          refine W_region ?_
          refine WL_q rfl (ev_assign rfl) ?_
          refine WL_nil ?_
          refine thenE_n ?_
          refine W_ret ?_
          refine ret1 rfl rfl ?_
          first | (exact ⟨rfl, hE⟩) | (exact (bneE hg46 (hr32.det1 hr23)).elim) | (exact absurd (hr32.det1 hr23) hp46) | (exact absurd (hr32.det1 hr23) (of_decide_eq_false hg46)) | (exact (bneE hg46 (hr32.det2 hr23)).elim) | (exact absurd (hr32.det2 hr23) hp46) | (exact absurd (hr32.det2 hr23) (of_decide_eq_false hg46)) | (exact (bneE hg46 (hr32.det3 hr23)).elim) | (exact absurd (hr32.det3 hr23) hp46) | (exact absurd (hr32.det3 hr23) (of_decide_eq_false hg46)) | (exact (tfX hg46).elim) | (exact (decF hg46).elim) | (exfalso; omega)

end Go.Proofs.Yticlopepmnlkmaa
