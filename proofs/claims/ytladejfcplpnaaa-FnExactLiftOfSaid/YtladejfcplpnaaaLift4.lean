/- Contract of spec.LiftOf. -/
import Derived.Test.YtladejfcplpnaaaLiftA
namespace Go.Proofs.Ytladejfcplpnaaa
open Go Go.RowKit

set_option maxHeartbeats 1000000 in
set_option maxRecDepth 100000 in
theorem sLiftOf_spec {loA hiA : Nat} (nA : NA) (A : Net) (r : Int) {lops hips : Nat} (aps : Option Addr) (cps : Nat) (ps : List (List Int)) (w : World) (hA : IsNet loA hiA w nA A) (hhiA : hiA ≤ w.heap.size) (hnA : totN A ≤ 1048576) (hps : Intss lops hips w aps cps ps) (hhips : hips ≤ w.heap.size) (hnps : totL ps ≤ 1048576) :
    Fn Try.prog 8 #[netV nA A, VI r, .slice aps ps.length cps] w (fun o9 w' => ∃ h' U q, o9 = .tuple #[netV h' U, VB q] ∧ RV (⟨[], [], []⟩ : Net) (opt (LF A r.toNat ps) (liftN A r.toNat ps)) U q ∧ IsNet w.heap.size w'.heap.size w' h' U ∧ totN U ≤ 1048576 ∧ Ext w w') := by
  have hqA := totL_len A.ends
  have hmA : totL A.ends + A.ids.length + A.inputs.length ≤ 1048576 := hnA
  have hE := Ext.refl w
  refine Fn_of Try.func8 rfl rfl (by kernel_rfl) rfl ?_
  refine W_seq ?_
  refine W_region ?_
  refine WL_m rfl (ev_box rfl) ?_
  rintro _ w3 ⟨rfl, hN3⟩
  have hz3 := hN3.size
  replace hE := hE.trans hN3.ext
  replace hA := hA.ext hN3.ext
  replace hps := hps.ext hN3.ext
  have hB3 : Blk w3 _ _ [_, _, _] := hN3.blk
  refine WL_m rfl (ev_alloc zr31) ?_
  rintro _ w6 ⟨rfl, hN6⟩
  have hz6 := hN6.size
  replace hE := hE.trans hN6.ext
  replace hA := hA.ext hN6.ext
  replace hps := hps.ext hN6.ext
  replace hB3 := hB3.ext hN6.ext
  have hB6 : Blk w6 _ _ [_, _, _] := hN6.blk
  refine WL_q rfl (ev_assign rfl) ?_
  refine WL_nil ?_
  refine thenE_n ?_
  refine W_seq ?_
  refine W_seq ?_
  refine W_region ?_
  refine WL_q rfl (ev_loads st31 sz31 rfl (cellsB hB3) rfl) ?_
  refine WL_m rfl (ev_call rfl (neGood_spec _ A _ hA (by omega) (by omega))) ?_
  rintro _ w13 ⟨b13, rfl, hb13, hE13⟩
  have hz13 := hE13.size
  replace hE := hE.trans hE13
  replace hA := hA.ext hE13
  replace hps := hps.ext hE13
  replace hB3 := hB3.ext hE13
  replace hB6 := hB6.ext hE13
  refine WL_q rfl (ev_not rfl) ?_
  refine WL_q rfl (ev_move rfl) ?_
  refine WL_splitv (t := 15) rfl (fun hg14 => ?_) (fun hg14 => ?_)
  · have hg13 := not_true hg14
    have hp13 := ttN hb13 hg13
    refine WL_no rfl rfl hg14 rfl ?_
    refine WL_no rfl rfl hg14 rfl ?_
    refine WL_no rfl rfl hg14 rfl ?_
    refine WL_q rfl (ev_pick_t rfl hg14 rfl) ?_
    refine WL_q rfl (ev_move rfl) ?_
    refine WL_no rfl rfl rfl rfl ?_
    refine WL_no rfl rfl rfl rfl ?_
    refine WL_no rfl rfl rfl rfl ?_
    refine WL_no rfl rfl rfl rfl ?_
    refine WL_no rfl rfl rfl rfl ?_
    refine WL_no rfl rfl rfl rfl ?_
    refine WL_q rfl (ev_pick_t rfl rfl rfl) ?_
    refine WL_q rfl (ev_move rfl) ?_
    refine WL_no rfl rfl rfl rfl ?_
    refine WL_no rfl rfl rfl rfl ?_
    refine WL_no rfl rfl rfl rfl ?_
    refine WL_no rfl rfl rfl rfl ?_
    refine WL_no rfl rfl rfl rfl ?_
    refine WL_no rfl rfl rfl rfl ?_
    refine WL_q rfl (ev_pick_t rfl rfl rfl) ?_
    refine WL_nil ?_
    refine thenE_n ?_
    refine W_cond_t rfl ?_
    refine W_seq ?_
    refine W_region ?_
    refine WL_q rfl (ev_buildP0 sn31_3 zr31 ) ?_
    refine WL_s (ev_stores sz31 rfl rfl rfl (by simp [Value.oneCell']) hB6 (by simp)) ?_
    rintro _ w2_1 hS2_1
    have hz2_1 := hS2_1.size
    replace hE := hE.sto hS2_1 (by omega)
    replace hA := hA.sto hS2_1 (by omega)
    replace hps := hps.sto hS2_1 (by omega)
    replace hB3 := hB3.sto hS2_1 (by omega)
    replace hB6 : Blk w2_1 _ _ [_, _, _] := hS2_1.blk
    refine WL_q rfl (ev_assign rfl) ?_
    refine WL_nil ?_
    refine thenE_n ?_
    refine W_ret ?_
    refine thenE_r ?_
    refine retc2 rfl rfl st31 sz31 (cellsB hB6) rfl rfl ?_
    first | (exact ⟨⟨none, 0, none, 0, none, 0⟩, ⟨[], [], []⟩, _, rfl, .no (fun h => hp13 h.a), ⟨Nest.nil, Ints.nil, Ints.nil⟩, by decide, hE⟩) | (exact ⟨⟨none, 0, none, 0, none, 0⟩, ⟨[], [], []⟩, _, rfl, .no (fun h => tf hg17 (inR_true.2 (by have h1 := h.k1; have h2 := Nat.le_trans (Nat.le_mul_of_pos_right r.toNat (show 0 < A.ends.length by have := h.a.nodes; omega)) h.kn; omega))), ⟨Nest.nil, Ints.nil, Ints.nil⟩, by decide, hE⟩) | (exact ⟨⟨none, 0, none, 0, none, 0⟩, ⟨[], [], []⟩, _, rfl, .no (fun h => absurd (show k * A.ends.length ≤ 40 from h.kn) (by omega)), ⟨Nest.nil, Ints.nil, Ints.nil⟩, by decide, hE⟩) | (exact ⟨⟨none, 0, none, 0, none, 0⟩, ⟨[], [], []⟩, _, rfl, .no (fun h => absurd (show ps.length = (edL A.ends).length from h.len) (by omega)), ⟨Nest.nil, Ints.nil, Ints.nil⟩, by decide, hE⟩) | (exact ⟨⟨none, 0, none, 0, none, 0⟩, ⟨[], [], []⟩, _, rfl, .no (fun h => hp50 (h.perm i hl47)), ⟨Nest.nil, Ints.nil, Ints.nil⟩, by decide, hE⟩) | (exact ⟨⟨none, 0, none, 0, none, 0⟩, ⟨[], [], []⟩, _, rfl, .no (fun h => st_no hls hpv hp88 (h.stub i hl47 hlt ⟨hp69, hp77⟩ s (show s < k by omega))), ⟨Nest.nil, Ints.nil, Ints.nil⟩, by decide, hE⟩) | (exact ⟨h96, liftN A k ps, _, rfl, .yes hL9 rfl, hN96.mono (by omega) (by omega), hl96, hE⟩)
  · have hg13 := not_false hg14
    have hp13 := hb13.1 hg13
    refine WL_qg rfl rfl hg14 rfl (ev_move rfl) ?_
    refine WL_mg rfl rfl hg14 rfl (ev_call rfl (l1In_spec _ _ _ _)) ?_
    rintro _ _ ⟨rfl, rfl⟩
    refine WL_qg rfl rfl hg14 rfl (ev_not rfl) ?_
    refine WL_q rfl (ev_pick_f rfl hg14 rfl) ?_
    refine WL_q rfl (ev_move rfl) ?_
    refine WL_splitv (t := 20) rfl (fun hg18 => ?_) (fun hg18 => ?_)
    · have hg17 := not_true hg18
      have hp17 := inR_false.1 hg17
      refine WL_no rfl rfl hg18 rfl ?_
      refine WL_no rfl rfl hg18 rfl ?_
      refine WL_no rfl rfl hg18 rfl ?_
      refine WL_no rfl rfl hg18 rfl ?_
      refine WL_no rfl rfl hg18 rfl ?_
      refine WL_no rfl rfl hg18 rfl ?_
      refine WL_q rfl (ev_pick_t rfl hg18 rfl) ?_
      refine WL_q rfl (ev_move rfl) ?_
      refine WL_no rfl rfl rfl rfl ?_
      refine WL_no rfl rfl rfl rfl ?_
      refine WL_no rfl rfl rfl rfl ?_
      refine WL_no rfl rfl rfl rfl ?_
      refine WL_no rfl rfl rfl rfl ?_
      refine WL_no rfl rfl rfl rfl ?_
      refine WL_q rfl (ev_pick_t rfl rfl rfl) ?_
      refine WL_nil ?_
      refine thenE_n ?_
      refine W_cond_t rfl ?_
      refine W_seq ?_
      refine W_region ?_
      refine WL_q rfl (ev_buildP0 sn31_3 zr31 ) ?_
      refine WL_s (ev_stores sz31 rfl rfl rfl (by simp [Value.oneCell']) hB6 (by simp)) ?_
      rintro _ w2_1 hS2_1
      have hz2_1 := hS2_1.size
      replace hE := hE.sto hS2_1 (by omega)
      replace hA := hA.sto hS2_1 (by omega)
      replace hps := hps.sto hS2_1 (by omega)
      replace hB3 := hB3.sto hS2_1 (by omega)
      replace hB6 : Blk w2_1 _ _ [_, _, _] := hS2_1.blk
      refine WL_q rfl (ev_assign rfl) ?_
      refine WL_nil ?_
      refine thenE_n ?_
      refine W_ret ?_
      refine thenE_r ?_
      refine retc2 rfl rfl st31 sz31 (cellsB hB6) rfl rfl ?_
      first | (exact ⟨⟨none, 0, none, 0, none, 0⟩, ⟨[], [], []⟩, _, rfl, .no (fun h => hp13 h.a), ⟨Nest.nil, Ints.nil, Ints.nil⟩, by decide, hE⟩) | (exact ⟨⟨none, 0, none, 0, none, 0⟩, ⟨[], [], []⟩, _, rfl, .no (fun h => tf hg17 (inR_true.2 (by have h1 := h.k1; have h2 := Nat.le_trans (Nat.le_mul_of_pos_right r.toNat (show 0 < A.ends.length by have := h.a.nodes; omega)) h.kn; omega))), ⟨Nest.nil, Ints.nil, Ints.nil⟩, by decide, hE⟩) | (exact ⟨⟨none, 0, none, 0, none, 0⟩, ⟨[], [], []⟩, _, rfl, .no (fun h => absurd (show k * A.ends.length ≤ 40 from h.kn) (by omega)), ⟨Nest.nil, Ints.nil, Ints.nil⟩, by decide, hE⟩) | (exact ⟨⟨none, 0, none, 0, none, 0⟩, ⟨[], [], []⟩, _, rfl, .no (fun h => absurd (show ps.length = (edL A.ends).length from h.len) (by omega)), ⟨Nest.nil, Ints.nil, Ints.nil⟩, by decide, hE⟩) | (exact ⟨⟨none, 0, none, 0, none, 0⟩, ⟨[], [], []⟩, _, rfl, .no (fun h => hp50 (h.perm i hl47)), ⟨Nest.nil, Ints.nil, Ints.nil⟩, by decide, hE⟩) | (exact ⟨⟨none, 0, none, 0, none, 0⟩, ⟨[], [], []⟩, _, rfl, .no (fun h => st_no hls hpv hp88 (h.stub i hl47 hlt ⟨hp69, hp77⟩ s (show s < k by omega))), ⟨Nest.nil, Ints.nil, Ints.nil⟩, by decide, hE⟩) | (exact ⟨h96, liftN A k ps, _, rfl, .yes hL9 rfl, hN96.mono (by omega) (by omega), hl96, hE⟩)
    · have hg17 := not_false hg18
      have hp17 := inR_true.1 hg17
      obtain ⟨k, hk9⟩ : ∃ k : Nat, r = (k : Int) := ⟨r.toNat, by omega⟩
      subst hk9
      have hkt : ((k : Int)).toNat = k := by omega
      have hndA := hp13.nodes
      have hinA := hp13.inLen
      have h6 := hp13.six
      have h40 : A.ends.length ≤ 40 := by omega
      have hkm : k * A.ends.length ≤ 40 * 40 := Nat.mul_le_mul (by omega) h40
      have hkm2 : (k : Int) * (A.ends.length : Int) = ((k * A.ends.length : Nat) : Int) := by rw [Int.natCast_mul]
      have hbd := edL_bd h6 h40
      refine WL_qg rfl rfl hg18 rfl (ev_move rfl) ?_
      refine WL_qg rfl rfl hg18 rfl (ev_fieldAddr fo31_0 rfl) ?_
      refine WL_qg rfl rfl hg18 rfl (ev_load one29 rfl (hB3.cell rfl)) ?_
      refine WL_qg rfl rfl hg18 rfl (ev_len Try.underlying29 rfl) ?_
      refine WL_qg rfl rfl hg18 rfl (ev_mul rfl rfl (by omega)) ?_
      refine WL_qg rfl rfl hg18 rfl (ev_gtr rfl rfl) ?_
      refine WL_q rfl (ev_pick_f rfl hg18 rfl) ?_
      refine WL_q rfl (ev_move rfl) ?_
      refine WL_splitv (t := 28) rfl (fun hg26 => ?_) (fun hg26 => ?_)
      · have hp26 := of_decide_eq_true hg26
        refine WL_no rfl rfl hg26 rfl ?_
        refine WL_no rfl rfl hg26 rfl ?_
        refine WL_no rfl rfl hg26 rfl ?_
        refine WL_no rfl rfl hg26 rfl ?_
        refine WL_no rfl rfl hg26 rfl ?_
        refine WL_no rfl rfl hg26 rfl ?_
        refine WL_q rfl (ev_pick_t rfl hg26 rfl) ?_
        refine WL_nil ?_
        refine thenE_n ?_
        refine W_cond_t rfl ?_
        refine W_seq ?_
        refine W_region ?_
        refine WL_q rfl (ev_buildP0 sn31_3 zr31 ) ?_
        refine WL_s (ev_stores sz31 rfl rfl rfl (by simp [Value.oneCell']) hB6 (by simp)) ?_
        rintro _ w2_1 hS2_1
        have hz2_1 := hS2_1.size
        replace hE := hE.sto hS2_1 (by omega)
        replace hA := hA.sto hS2_1 (by omega)
        replace hps := hps.sto hS2_1 (by omega)
        replace hB3 := hB3.sto hS2_1 (by omega)
        replace hB6 : Blk w2_1 _ _ [_, _, _] := hS2_1.blk
        refine WL_q rfl (ev_assign rfl) ?_
        refine WL_nil ?_
        refine thenE_n ?_
        refine W_ret ?_
        refine thenE_r ?_
        refine retc2 rfl rfl st31 sz31 (cellsB hB6) rfl rfl ?_
        first | (exact ⟨⟨none, 0, none, 0, none, 0⟩, ⟨[], [], []⟩, _, rfl, .no (fun h => hp13 h.a), ⟨Nest.nil, Ints.nil, Ints.nil⟩, by decide, hE⟩) | (exact ⟨⟨none, 0, none, 0, none, 0⟩, ⟨[], [], []⟩, _, rfl, .no (fun h => tf hg17 (inR_true.2 (by have h1 := h.k1; have h2 := Nat.le_trans (Nat.le_mul_of_pos_right r.toNat (show 0 < A.ends.length by have := h.a.nodes; omega)) h.kn; omega))), ⟨Nest.nil, Ints.nil, Ints.nil⟩, by decide, hE⟩) | (exact ⟨⟨none, 0, none, 0, none, 0⟩, ⟨[], [], []⟩, _, rfl, .no (fun h => absurd (show k * A.ends.length ≤ 40 from h.kn) (by omega)), ⟨Nest.nil, Ints.nil, Ints.nil⟩, by decide, hE⟩) | (exact ⟨⟨none, 0, none, 0, none, 0⟩, ⟨[], [], []⟩, _, rfl, .no (fun h => absurd (show ps.length = (edL A.ends).length from h.len) (by omega)), ⟨Nest.nil, Ints.nil, Ints.nil⟩, by decide, hE⟩) | (exact ⟨⟨none, 0, none, 0, none, 0⟩, ⟨[], [], []⟩, _, rfl, .no (fun h => hp50 (h.perm i hl47)), ⟨Nest.nil, Ints.nil, Ints.nil⟩, by decide, hE⟩) | (exact ⟨⟨none, 0, none, 0, none, 0⟩, ⟨[], [], []⟩, _, rfl, .no (fun h => st_no hls hpv hp88 (h.stub i hl47 hlt ⟨hp69, hp77⟩ s (show s < k by omega))), ⟨Nest.nil, Ints.nil, Ints.nil⟩, by decide, hE⟩) | (exact ⟨h96, liftN A k ps, _, rfl, .yes hL9 rfl, hN96.mono (by omega) (by omega), hl96, hE⟩)
      · have hp26 := of_decide_eq_false hg26
        refine WL_qg rfl rfl hg26 rfl (ev_move rfl) ?_
        refine WL_qg rfl rfl hg26 rfl (ev_len Try.underlying26 rfl) ?_
        refine WL_qg rfl rfl hg26 rfl (ev_loads st31 sz31 rfl (cellsB hB3) rfl) ?_
        refine WL_mg rfl rfl hg26 rfl (ev_call rfl (neEdges_spec _ A _ hA (by omega) (by omega) (by assumption) (by omega))) ?_
        rintro _ w32 ⟨a32, c32, rfl, hI32, hE32⟩
        have hz32 := hE32.size
        replace hE := hE.trans hE32
        replace hA := hA.ext hE32
        replace hps := hps.ext hE32
        replace hB3 := hB3.ext hE32
        replace hB6 := hB6.ext hE32
        refine WL_qg rfl rfl hg26 rfl (ev_len Try.underlying26 rfl) ?_
        refine WL_qg rfl rfl hg26 rfl (ev_neq rfl rfl) ?_
        refine WL_q rfl (ev_pick_f rfl hg26 rfl) ?_
        refine WL_nil ?_
        refine thenE_n ?_
        refine W_cond rfl (fun hg34 => ?_) (fun hg34 => ?_)
        · have hp34 := of_decide_eq_true hg34
          refine W_seq ?_
          refine W_region ?_
          refine WL_q rfl (ev_buildP0 sn31_3 zr31 ) ?_
          refine WL_s (ev_stores sz31 rfl rfl rfl (by simp [Value.oneCell']) hB6 (by simp)) ?_
          rintro _ w2_1 hS2_1
          have hz2_1 := hS2_1.size
          replace hE := hE.sto hS2_1 (by omega)
          replace hA := hA.sto hS2_1 (by omega)
          replace hps := hps.sto hS2_1 (by omega)
          replace hB3 := hB3.sto hS2_1 (by omega)
          replace hI32 := hI32.sto hS2_1 (by omega)
          replace hB6 : Blk w2_1 _ _ [_, _, _] := hS2_1.blk
          refine WL_q rfl (ev_assign rfl) ?_
          refine WL_nil ?_
          refine thenE_n ?_
          refine W_ret ?_
          refine thenE_r ?_
          refine retc2 rfl rfl st31 sz31 (cellsB hB6) rfl rfl ?_
          first | (exact ⟨⟨none, 0, none, 0, none, 0⟩, ⟨[], [], []⟩, _, rfl, .no (fun h => hp13 h.a), ⟨Nest.nil, Ints.nil, Ints.nil⟩, by decide, hE⟩) | (exact ⟨⟨none, 0, none, 0, none, 0⟩, ⟨[], [], []⟩, _, rfl, .no (fun h => tf hg17 (inR_true.2 (by have h1 := h.k1; have h2 := Nat.le_trans (Nat.le_mul_of_pos_right r.toNat (show 0 < A.ends.length by have := h.a.nodes; omega)) h.kn; omega))), ⟨Nest.nil, Ints.nil, Ints.nil⟩, by decide, hE⟩) | (exact ⟨⟨none, 0, none, 0, none, 0⟩, ⟨[], [], []⟩, _, rfl, .no (fun h => absurd (show k * A.ends.length ≤ 40 from h.kn) (by omega)), ⟨Nest.nil, Ints.nil, Ints.nil⟩, by decide, hE⟩) | (exact ⟨⟨none, 0, none, 0, none, 0⟩, ⟨[], [], []⟩, _, rfl, .no (fun h => absurd (show ps.length = (edL A.ends).length from h.len) (by omega)), ⟨Nest.nil, Ints.nil, Ints.nil⟩, by decide, hE⟩) | (exact ⟨⟨none, 0, none, 0, none, 0⟩, ⟨[], [], []⟩, _, rfl, .no (fun h => hp50 (h.perm i hl47)), ⟨Nest.nil, Ints.nil, Ints.nil⟩, by decide, hE⟩) | (exact ⟨⟨none, 0, none, 0, none, 0⟩, ⟨[], [], []⟩, _, rfl, .no (fun h => st_no hls hpv hp88 (h.stub i hl47 hlt ⟨hp69, hp77⟩ s (show s < k by omega))), ⟨Nest.nil, Ints.nil, Ints.nil⟩, by decide, hE⟩) | (exact ⟨h96, liftN A k ps, _, rfl, .yes hL9 rfl, hN96.mono (by omega) (by omega), hl96, hE⟩)
        · have hp34 := of_decide_eq_false hg34
          refine W_skip ?_
          refine thenE_n ?_
          refine W_seq ?_
          refine W_seq ?_
          refine W_region ?_
          refine WL_q rfl (ev_loads st31 sz31 rfl (cellsB hB3) rfl) ?_
          refine WL_m rfl (ev_call rfl (neEdges_spec _ A _ hA (by omega) (by omega) (by assumption) (by omega))) ?_
          rintro _ w38 ⟨a38, c38, rfl, hI38, hE38⟩
          have hz38 := hE38.size
          replace hE := hE.trans hE38
          replace hA := hA.ext hE38
          replace hps := hps.ext hE38
          replace hB3 := hB3.ext hE38
          replace hB6 := hB6.ext hE38
          replace hI32 := hI32.ext hE38
          have hql := qR_len (edL A.ends)
          refine WL_q rfl (ev_len Try.underlying26 rfl) ?_
          refine WL_q rfl (ev_move rfl) ?_
          refine WL_nil ?_
          refine thenE_n ?_
          refine W_block ?_
          refine W_loopC (G := Nat) [(1, _), (2, _), (3, _), (6, _), (38, _), (39, _)] ((Subs.c rfl (Subs.c rfl (Subs.c rfl (Subs.c rfl (Subs.c rfl (Subs.c rfl Subs.n))))))) (fun i => [(40, VI (i : Int))]) (fun i w' => Ext w38 w' ∧ i ≤ (edL A.ends).length ∧ ∀ m (_ : m < i) (h2 : m < ps.length), IsPerm ps[m] k ∧ ∀ (h3 : m < (edL A.ends).length), StQ (edL A.ends)[m] → ∀ s, s < k → ps[m].getD (ps[m].getD s 0).toNat 0 = (s : Int)) (fun i => (edL A.ends).length - i) 0 ((Subs.c (lkI rfl (by omega)) Subs.n)) (⟨Ext.refl _, ⟨Nat.zero_le _, fun m hm => absurd hm (Nat.not_lt_zero _)⟩⟩) ?_
          rintro i wL0 ⟨hRL0, hi', hJ⟩
          have hzL0 := hRL0.size
          replace hE := hE.trans hRL0
          replace hA := hA.ext hRL0
          replace hps := hps.ext hRL0
          replace hB3 := hB3.ext hRL0
          replace hB6 := hB6.ext hRL0
          replace hI32 := hI32.ext hRL0
          replace hI38 := hI38.ext hRL0
          refine W_seq ?_
          refine W_region ?_
          refine WL_q rfl (ev_lss rfl rfl) ?_
          refine WL_nil ?_
          refine thenE_n ?_
          refine W_seq ?_
          refine W_cond rfl (fun hg41 => ?_) (fun hg41 => ?_)
          · have hp41 := of_decide_eq_true hg41
            refine W_skip ?_
            refine thenE_n ?_
            refine W_seq ?_
            refine W_block ?_
            refine W_seq ?_
            refine W_region ?_
            refine WL_q rfl (ev_move rfl) ?_
            have hlt : i < (edL A.ends).length := by omega
            have hl43 : i < (qR (edL A.ends)).length := by omega
            have ht43 := totL_le hl43
            obtain ⟨a43, c43, hc43, hr43⟩ := hI38.row hl43
            refine WL_q rfl (ev_indexAddr Try.underlying26 sz23 rfl rfl (hI38.isSome (by omega)) (by omega) (by omega)) ?_
            refine WL_q rfl (ev_load one23 rfl (hc43)) ?_
            refine WL_q rfl (ev_assign rfl) ?_
            have hqa := qR_at (qs := edL A.ends) (i := i) (by omega) hlt
            rw [hqa] at hr43 ⊢
            refine WL_q rfl (ev_assign rfl) ?_
            refine WL_nil ?_
            refine thenE_n ?_
            refine W_seq ?_
            refine W_seq ?_
            refine W_region ?_
            refine WL_q rfl (ev_move rfl) ?_
            refine WL_q rfl (ev_move rfl) ?_
            have hl47 : i < ps.length := by omega
            have ht47 := totL_le hl47
            obtain ⟨a47, c47, hc47, hr47⟩ := hps.row hl47
            refine WL_q rfl (ev_indexAddr Try.underlying26 sz23 rfl rfl (hps.isSome (by omega)) (by omega) (by omega)) ?_
            refine WL_q rfl (ev_load one23 rfl (hc47)) ?_
            refine WL_q rfl (ev_move rfl) ?_
            refine WL_m rfl (ev_call rfl (nePerm_spec _ _ ps[i] _ _ hr47 (by omega) (by omega))) ?_
            rintro _ w50 ⟨b50, rfl, hb50, hE50⟩
            have hz50 := hE50.size
            replace hE := hE.trans hE50
            replace hRL0 := hRL0.trans hE50
            replace hA := hA.ext hE50
            replace hps := hps.ext hE50
            replace hB3 := hB3.ext hE50
            replace hB6 := hB6.ext hE50
            replace hI32 := hI32.ext hE50
            replace hI38 := hI38.ext hE50
            replace hr43 := hr43.ext hE50
            replace hr47 := hr47.ext hE50
            refine WL_q rfl (ev_not rfl) ?_
            refine WL_nil ?_
            refine thenE_n ?_
            refine W_cond rfl (fun hg51 => ?_) (fun hg51 => ?_)
            · have hg50 := not_true hg51
              have hp50 := ttN hb50 hg50
              refine W_seq ?_
              refine W_region ?_
              refine WL_q rfl (ev_buildP0 sn31_3 zr31 ) ?_
              refine WL_s (ev_stores sz31 rfl rfl rfl (by simp [Value.oneCell']) hB6 (by simp)) ?_
              rintro _ w7_1 hS7_1
              have hz7_1 := hS7_1.size
              replace hE := hE.sto hS7_1 (by omega)
              replace hA := hA.sto hS7_1 (by omega)
              replace hps := hps.sto hS7_1 (by omega)
              replace hB3 := hB3.sto hS7_1 (by omega)
              replace hI32 := hI32.sto hS7_1 (by omega)
              replace hI38 := hI38.sto hS7_1 (by omega)
              replace hr43 := hr43.sto hS7_1 (by omega)
              replace hr47 := hr47.sto hS7_1 (by omega)
              replace hB6 : Blk w7_1 _ _ [_, _, _] := hS7_1.blk
              refine WL_q rfl (ev_assign rfl) ?_
              refine WL_nil ?_
              refine thenE_n ?_
              refine W_ret ?_
              refine thenE_r ?_
              refine blockE_r ?_
              refine thenE_r ?_
              refine thenE_r ?_
              refine blockE_r ?_
              refine thenE_r ?_
              refine retc2 rfl rfl st31 sz31 (cellsB hB6) rfl rfl ?_
              first | (exact ⟨⟨none, 0, none, 0, none, 0⟩, ⟨[], [], []⟩, _, rfl, .no (fun h => hp13 h.a), ⟨Nest.nil, Ints.nil, Ints.nil⟩, by decide, hE⟩) | (exact ⟨⟨none, 0, none, 0, none, 0⟩, ⟨[], [], []⟩, _, rfl, .no (fun h => tf hg17 (inR_true.2 (by have h1 := h.k1; have h2 := Nat.le_trans (Nat.le_mul_of_pos_right r.toNat (show 0 < A.ends.length by have := h.a.nodes; omega)) h.kn; omega))), ⟨Nest.nil, Ints.nil, Ints.nil⟩, by decide, hE⟩) | (exact ⟨⟨none, 0, none, 0, none, 0⟩, ⟨[], [], []⟩, _, rfl, .no (fun h => absurd (show k * A.ends.length ≤ 40 from h.kn) (by omega)), ⟨Nest.nil, Ints.nil, Ints.nil⟩, by decide, hE⟩) | (exact ⟨⟨none, 0, none, 0, none, 0⟩, ⟨[], [], []⟩, _, rfl, .no (fun h => absurd (show ps.length = (edL A.ends).length from h.len) (by omega)), ⟨Nest.nil, Ints.nil, Ints.nil⟩, by decide, hE⟩) | (exact ⟨⟨none, 0, none, 0, none, 0⟩, ⟨[], [], []⟩, _, rfl, .no (fun h => hp50 (h.perm i hl47)), ⟨Nest.nil, Ints.nil, Ints.nil⟩, by decide, hE⟩) | (exact ⟨⟨none, 0, none, 0, none, 0⟩, ⟨[], [], []⟩, _, rfl, .no (fun h => st_no hls hpv hp88 (h.stub i hl47 hlt ⟨hp69, hp77⟩ s (show s < k by omega))), ⟨Nest.nil, Ints.nil, Ints.nil⟩, by decide, hE⟩) | (exact ⟨h96, liftN A k ps, _, rfl, .yes hL9 rfl, hN96.mono (by omega) (by omega), hl96, hE⟩)
            · have hg50 := not_false hg51
              have hp50 := hb50.1 hg50
              refine W_skip ?_
              refine thenE_n ?_
              refine W_seq ?_
              refine W_region ?_
              refine WL_q rfl (ev_move rfl) ?_
              refine WL_q rfl (ev_move rfl) ?_
              have hl55 : i < ps.length := by omega
              have ht55 := totL_le hl55
              obtain ⟨a55, c55, hc55, hr55⟩ := hps.row hl55
              refine WL_q rfl (ev_indexAddr Try.underlying26 sz23 rfl rfl (hps.isSome (by omega)) (by omega) (by omega)) ?_
              refine WL_q rfl (ev_load one23 rfl (hc55)) ?_
              refine WL_q rfl (ev_len Try.underlying23 rfl) ?_
              refine WL_q rfl (ev_move rfl) ?_
              refine WL_nil ?_
              refine thenE_n ?_
              refine W_block ?_
              have hpl := hp50.1
              have hqll : (qL (edL A.ends)[i]).length = 4 := rfl
              refine W_loopC (G := Nat) [(1, _), (2, _), (3, _), (6, _), (8, _), (9, _), (38, _), (39, _), (40, _), (56, _), (57, _)] ((Subs.c rfl (Subs.c rfl (Subs.c rfl (Subs.c rfl (Subs.c rfl (Subs.c rfl (Subs.c rfl (Subs.c rfl (Subs.c rfl (Subs.c rfl (Subs.c rfl Subs.n)))))))))))) (fun s => [(58, VI (s : Int))]) (fun s w' => Ext w50 w' ∧ s ≤ ps[i].length ∧ ∀ u (_ : u < s), StQ (edL A.ends)[i] → ps[i].getD (ps[i].getD u 0).toNat 0 = (u : Int)) (fun g => ps[i].length - g) 0 ((Subs.c (lkI rfl (by omega)) Subs.n)) (⟨Ext.refl _, ⟨Nat.zero_le _, fun u hu => absurd hu (Nat.not_lt_zero _)⟩⟩) ?_
              rintro s wL2 ⟨hRL2, hs', hJ2⟩
              have hzL2 := hRL2.size
              replace hE := hE.trans hRL2
              replace hRL0 := hRL0.trans hRL2
              replace hA := hA.ext hRL2
              replace hps := hps.ext hRL2
              replace hB3 := hB3.ext hRL2
              replace hB6 := hB6.ext hRL2
              replace hI32 := hI32.ext hRL2
              replace hI38 := hI38.ext hRL2
              replace hr43 := hr43.ext hRL2
              replace hr47 := hr47.ext hRL2
              replace hr55 := hr55.ext hRL2
              refine W_seq ?_
              refine W_region ?_
              refine WL_q rfl (ev_lss rfl rfl) ?_
              refine WL_nil ?_
              refine thenE_n ?_
              refine W_seq ?_
              refine W_cond rfl (fun hg59 => ?_) (fun hg59 => ?_)
              · have hp59 := of_decide_eq_true hg59
                refine W_skip ?_
                refine thenE_n ?_
                refine W_seq ?_
                refine W_block ?_
                refine W_seq ?_
                refine W_region ?_
                refine WL_q rfl (ev_move rfl) ?_
                have hls : s < ps[i].length := by omega
                have hpr := hp50.2.1 _ (List.getElem_mem hls)
                have hpv : ps[i][s].toNat < ps[i].length := by omega
                refine WL_q rfl (ev_indexAddr Try.underlying23 sz3 rfl rfl (hr55.isSome (by omega)) (by omega) (by omega)) ?_
                refine WL_q rfl (ev_load one3 rfl (hr55.cell (i := s) (by omega))) ?_
                refine WL_q rfl (ev_assign rfl) ?_
                refine WL_q rfl (ev_assign rfl) ?_
                refine WL_nil ?_
                refine thenE_n ?_
                refine W_seq ?_
                refine W_drawE [(0, true), (1, true), (2, true), (3, true), (4, true), (5, true), (6, true), (7, true), (8, true), (9, true), (10, true), (11, true), (12, true), (13, true), (14, true), (15, true), (16, true), (17, true), (18, true), (19, true), (20, true), (21, true), (22, true), (23, true), (24, true), (25, true), (26, true)] mixed (by kernel_rfl) rfl (by kernel_rfl) ?_
                intro wd11 hEd11 hzd11
                replace hE := hE.trans hEd11
                replace hRL0 := hRL0.trans hEd11
                replace hRL2 := hRL2.trans hEd11
                replace hA := hA.ext hEd11
                replace hps := hps.ext hEd11
                replace hB3 := hB3.ext hEd11
                replace hB6 := hB6.ext hEd11
                replace hI32 := hI32.ext hEd11
                replace hI38 := hI38.ext hEd11
                replace hr43 := hr43.ext hEd11
                replace hr47 := hr47.ext hEd11
                replace hr55 := hr55.ext hEd11
                have hDd11 := Ext.refl wd11
                refine PW_q rfl rfl (fun wq hq => ev_move rfl) ?_
                refine PW_q rfl rfl (fun wq hq => ev_indexAddr Try.underlying23 sz3 rfl rfl (hr43.isSome (by omega)) (by omega) (by omega)) ?_
                have hc65 := hr43.cell (i := 0) (by omega)
                refine PW_q rfl rfl (fun wq hq => ev_load one3 rfl (hq.cell (hc65))) ?_
                refine PW_q rfl rfl (fun wq hq => ev_move rfl) ?_
                refine PW_q rfl rfl (fun wq hq => ev_indexAddr Try.underlying23 sz3 rfl rfl (hr43.isSome (by omega)) (by omega) (by omega)) ?_
                have hc68 := hr43.cell (i := 2) (by omega)
                refine PW_q rfl rfl (fun wq hq => ev_load one3 rfl (hq.cell (hc68))) ?_
                refine PW_q rfl rfl (fun wq hq => ev_eql rfl rfl) ?_
                refine PW_q rfl rfl (fun wq hq => ev_move rfl) ?_
                refine PW_splitv (t := 70) rfl (fun hg69 => ?_) (fun hg69 => ?_)
                · have hp69 := of_decide_eq_true hg69
                  refine PW_qg rfl rfl rfl hg69 rfl (fun wq hq => ev_move rfl) ?_
                  refine PW_qg rfl rfl rfl hg69 rfl (fun wq hq => ev_indexAddr Try.underlying23 sz3 rfl rfl (hr43.isSome (by omega)) (by omega) (by omega)) ?_
                  have hc73 := hr43.cell (i := 1) (by omega)
                  refine PW_qg rfl rfl rfl hg69 rfl (fun wq hq => ev_load one3 rfl (hq.cell (hc73))) ?_
                  refine PW_qg rfl rfl rfl hg69 rfl (fun wq hq => ev_move rfl) ?_
                  refine PW_qg rfl rfl rfl hg69 rfl (fun wq hq => ev_indexAddr Try.underlying23 sz3 rfl rfl (hr43.isSome (by omega)) (by omega) (by omega)) ?_
                  have hc76 := hr43.cell (i := 3) (by omega)
                  refine PW_qg rfl rfl rfl hg69 rfl (fun wq hq => ev_load one3 rfl (hq.cell (hc76))) ?_
                  refine PW_qg rfl rfl rfl hg69 rfl (fun wq hq => ev_eql rfl rfl) ?_
                  refine PW_q rfl rfl (fun wq hq => ev_pick_t rfl hg69 rfl) ?_
                  refine PW_q rfl rfl (fun wq hq => ev_move rfl) ?_
                  refine PW_splitv (t := 79) rfl (fun hg77 => ?_) (fun hg77 => ?_)
                  · have hp77 := of_decide_eq_true hg77
                    refine PW_qg rfl rfl rfl hg77 rfl (fun wq hq => ev_move rfl) ?_
                    refine PW_qg rfl rfl rfl hg77 rfl (fun wq hq => ev_move rfl) ?_
                    have hl82 : i < ps.length := by omega
                    have ht82 := totL_le hl82
                    obtain ⟨a82, c82, hc82, hr82⟩ := hps.row hl82
                    refine PW_qg rfl rfl rfl hg77 rfl (fun wq hq => ev_indexAddr Try.underlying26 sz23 rfl rfl (hps.isSome (by omega)) (by omega) (by omega)) ?_
                    refine PW_qg rfl rfl rfl hg77 rfl (fun wq hq => ev_load one23 rfl (hq.cell (hc82))) ?_
                    refine PW_qg rfl rfl rfl hg77 rfl (fun wq hq => ev_move rfl) ?_
                    refine PW_qg rfl rfl rfl hg77 rfl (fun wq hq => ev_indexAddr Try.underlying23 sz3 rfl rfl (hr82.isSome (by omega)) (by omega) (by omega)) ?_
                    have hc86 := hr82.cell (i := ps[i][s].toNat) (by omega)
                    refine PW_qg rfl rfl rfl hg77 rfl (fun wq hq => ev_load one3 rfl (hq.cell (hc86))) ?_
                    refine PW_qg rfl rfl rfl hg77 rfl (fun wq hq => ev_move rfl) ?_
                    refine PW_qg rfl rfl rfl hg77 rfl (fun wq hq => ev_neq rfl rfl) ?_
                    refine PW_q rfl rfl (fun wq hq => ev_pick_t rfl hg77 rfl) ?_
                    refine PW_nil ?_
                    refine thenE_n ?_
                    refine W_cond rfl (fun hg88 => ?_) (fun hg88 => ?_)
                    · have hp88 := of_decide_eq_true hg88
                      refine W_seq ?_
                      refine W_region ?_
                      refine WL_q rfl (ev_buildP0 sn31_3 zr31 ) ?_
                      refine WL_s (ev_stores sz31 rfl rfl rfl (by simp [Value.oneCell']) hB6 (by simp)) ?_
                      rintro _ w12_1 hS12_1
                      have hz12_1 := hS12_1.size
                      replace hE := hE.sto hS12_1 (by omega)
                      replace hA := hA.sto hS12_1 (by omega)
                      replace hps := hps.sto hS12_1 (by omega)
                      replace hB3 := hB3.sto hS12_1 (by omega)
                      replace hI32 := hI32.sto hS12_1 (by omega)
                      replace hI38 := hI38.sto hS12_1 (by omega)
                      replace hr43 := hr43.sto hS12_1 (by omega)
                      replace hr47 := hr47.sto hS12_1 (by omega)
                      replace hr55 := hr55.sto hS12_1 (by omega)
                      replace hr82 := hr82.sto hS12_1 (by omega)
                      replace hB6 : Blk w12_1 _ _ [_, _, _] := hS12_1.blk
                      refine WL_q rfl (ev_assign rfl) ?_
                      refine WL_nil ?_
                      refine thenE_n ?_
                      refine W_ret ?_
                      refine blockE_r ?_
                      refine thenE_r ?_
                      refine thenE_r ?_
                      refine blockE_r ?_
                      refine blockE_r ?_
                      refine thenE_r ?_
                      refine thenE_r ?_
                      refine blockE_r ?_
                      refine thenE_r ?_
                      refine retc2 rfl rfl st31 sz31 (cellsB hB6) rfl rfl ?_
                      first | (exact ⟨⟨none, 0, none, 0, none, 0⟩, ⟨[], [], []⟩, _, rfl, .no (fun h => hp13 h.a), ⟨Nest.nil, Ints.nil, Ints.nil⟩, by decide, hE⟩) | (exact ⟨⟨none, 0, none, 0, none, 0⟩, ⟨[], [], []⟩, _, rfl, .no (fun h => tf hg17 (inR_true.2 (by have h1 := h.k1; have h2 := Nat.le_trans (Nat.le_mul_of_pos_right r.toNat (show 0 < A.ends.length by have := h.a.nodes; omega)) h.kn; omega))), ⟨Nest.nil, Ints.nil, Ints.nil⟩, by decide, hE⟩) | (exact ⟨⟨none, 0, none, 0, none, 0⟩, ⟨[], [], []⟩, _, rfl, .no (fun h => absurd (show k * A.ends.length ≤ 40 from h.kn) (by omega)), ⟨Nest.nil, Ints.nil, Ints.nil⟩, by decide, hE⟩) | (exact ⟨⟨none, 0, none, 0, none, 0⟩, ⟨[], [], []⟩, _, rfl, .no (fun h => absurd (show ps.length = (edL A.ends).length from h.len) (by omega)), ⟨Nest.nil, Ints.nil, Ints.nil⟩, by decide, hE⟩) | (exact ⟨⟨none, 0, none, 0, none, 0⟩, ⟨[], [], []⟩, _, rfl, .no (fun h => hp50 (h.perm i hl47)), ⟨Nest.nil, Ints.nil, Ints.nil⟩, by decide, hE⟩) | (exact ⟨⟨none, 0, none, 0, none, 0⟩, ⟨[], [], []⟩, _, rfl, .no (fun h => st_no hls hpv hp88 (h.stub i hl47 hlt ⟨hp69, hp77⟩ s (show s < k by omega))), ⟨Nest.nil, Ints.nil, Ints.nil⟩, by decide, hE⟩) | (exact ⟨h96, liftN A k ps, _, rfl, .yes hL9 rfl, hN96.mono (by omega) (by omega), hl96, hE⟩)
                    · have hp88 := of_decide_eq_false hg88
                      refine W_skip ?_
                      refine blockE_n ?_
                      refine thenE_n ?_
                      refine W_region ?_
                      refine WL_q rfl (ev_add rfl rfl (by omega)) ?_
                      refine WL_q rfl (ev_move rfl) ?_
                      refine WL_nil ?_
                      refine thenE_n ?_
                      exact ⟨s + 1, (Subs.c rfl (Subs.c rfl (Subs.c rfl (Subs.c rfl (Subs.c rfl (Subs.c rfl (Subs.c rfl (Subs.c rfl (Subs.c rfl (Subs.c rfl (Subs.c rfl Subs.n))))))))))), (Subs.c (lkI rfl (by omega)) Subs.n), ⟨hRL2, ⟨by omega, fun u hu hst => by
  by_cases e : u = s
  · subst e; exact st_yes hls hpv hp88
  · exact hJ2 u (by omega) hst⟩⟩, by first | omega | (dsimp only; omega)⟩
                  · have hp77 := of_decide_eq_false hg77
                    refine PW_no rfl rfl rfl hg77 rfl ?_
                    refine PW_no rfl rfl rfl hg77 rfl ?_
                    refine PW_no rfl rfl rfl hg77 rfl ?_
                    refine PW_no rfl rfl rfl hg77 rfl ?_
                    refine PW_no rfl rfl rfl hg77 rfl ?_
                    refine PW_no rfl rfl rfl hg77 rfl ?_
                    refine PW_no rfl rfl rfl hg77 rfl ?_
                    refine PW_no rfl rfl rfl hg77 rfl ?_
                    refine PW_no rfl rfl rfl hg77 rfl ?_
                    refine PW_q rfl rfl (fun wq hq => ev_pick_f rfl hg77 rfl) ?_
                    refine PW_nil ?_
                    refine thenE_n ?_
                    refine W_cond_f rfl ?_
                    refine W_skip ?_
                    refine blockE_n ?_
                    refine thenE_n ?_
                    refine W_region ?_
                    refine WL_q rfl (ev_add rfl rfl (by omega)) ?_
                    refine WL_q rfl (ev_move rfl) ?_
                    refine WL_nil ?_
                    refine thenE_n ?_
                    exact ⟨s + 1, (Subs.c rfl (Subs.c rfl (Subs.c rfl (Subs.c rfl (Subs.c rfl (Subs.c rfl (Subs.c rfl (Subs.c rfl (Subs.c rfl (Subs.c rfl (Subs.c rfl Subs.n))))))))))), (Subs.c (lkI rfl (by omega)) Subs.n), ⟨hRL2, ⟨by omega, fun u hu hst => by
  by_cases e : u = s
  · subst e; exact absurd hst.2 hp77
  · exact hJ2 u (by omega) hst⟩⟩, by first | omega | (dsimp only; omega)⟩
                · have hp69 := of_decide_eq_false hg69
                  refine PW_no rfl rfl rfl hg69 rfl ?_
                  refine PW_no rfl rfl rfl hg69 rfl ?_
                  refine PW_no rfl rfl rfl hg69 rfl ?_
                  refine PW_no rfl rfl rfl hg69 rfl ?_
                  refine PW_no rfl rfl rfl hg69 rfl ?_
                  refine PW_no rfl rfl rfl hg69 rfl ?_
                  refine PW_no rfl rfl rfl hg69 rfl ?_
                  refine PW_q rfl rfl (fun wq hq => ev_pick_f rfl hg69 rfl) ?_
                  refine PW_q rfl rfl (fun wq hq => ev_move rfl) ?_
                  refine PW_no rfl rfl rfl rfl rfl ?_
                  refine PW_no rfl rfl rfl rfl rfl ?_
                  refine PW_no rfl rfl rfl rfl rfl ?_
                  refine PW_no rfl rfl rfl rfl rfl ?_
                  refine PW_no rfl rfl rfl rfl rfl ?_
                  refine PW_no rfl rfl rfl rfl rfl ?_
                  refine PW_no rfl rfl rfl rfl rfl ?_
                  refine PW_no rfl rfl rfl rfl rfl ?_
                  refine PW_no rfl rfl rfl rfl rfl ?_
                  refine PW_q rfl rfl (fun wq hq => ev_pick_f rfl rfl rfl) ?_
                  refine PW_nil ?_
                  refine thenE_n ?_
                  refine W_cond_f rfl ?_
                  refine W_skip ?_
                  refine blockE_n ?_
                  refine thenE_n ?_
                  refine W_region ?_
                  refine WL_q rfl (ev_add rfl rfl (by omega)) ?_
                  refine WL_q rfl (ev_move rfl) ?_
                  refine WL_nil ?_
                  refine thenE_n ?_
                  exact ⟨s + 1, (Subs.c rfl (Subs.c rfl (Subs.c rfl (Subs.c rfl (Subs.c rfl (Subs.c rfl (Subs.c rfl (Subs.c rfl (Subs.c rfl (Subs.c rfl (Subs.c rfl Subs.n))))))))))), (Subs.c (lkI rfl (by omega)) Subs.n), ⟨hRL2, ⟨by omega, fun u hu hst => by
  by_cases e : u = s
  · subst e; exact absurd hst.1 hp69
  · exact hJ2 u (by omega) hst⟩⟩, by first | omega | (dsimp only; omega)⟩
              · have hp59 := of_decide_eq_false hg59
                refine W_exit ?_
                refine thenE_x ?_
                refine thenE_x ?_
                refine blockE_hit ?_
                refine blockE_n ?_
                refine thenE_n ?_
                refine W_region ?_
                refine WL_q rfl (ev_add rfl rfl (by omega)) ?_
                refine WL_q rfl (ev_move rfl) ?_
                refine WL_nil ?_
                refine thenE_n ?_
                exact ⟨i + 1, (Subs.c rfl (Subs.c rfl (Subs.c rfl (Subs.c rfl (Subs.c rfl (Subs.c rfl Subs.n)))))), (Subs.c (lkI rfl (by omega)) Subs.n), ⟨hRL0, ⟨by omega, fun m hm h2 => by
  by_cases e : m = i
  · subst e
    have hps := hp50.1
    exact ⟨hp50, fun h3 hst s9 hs9 => hJ2 s9 (by omega) hst⟩
  · exact hJ m (by omega) h2⟩⟩, by first | omega | (dsimp only; omega)⟩
          · have hp41 := of_decide_eq_false hg41
            refine W_exit ?_
            refine thenE_x ?_
            refine thenE_x ?_
            refine blockE_hit ?_
            refine thenE_n ?_
            refine W_seq ?_
            refine W_region ?_
            refine WL_q rfl (ev_loads st31 sz31 rfl (cellsB hB3) rfl) ?_
            refine WL_q rfl (ev_move rfl) ?_
            refine WL_q rfl (ev_move rfl) ?_
            have hi9 : i = (edL A.ends).length := by omega
            subst hi9
            have hL9 : LF A k ps := LF.of hp13 (by omega) (by omega) (by omega) hJ
            refine WL_m rfl (ev_call rfl (coLift_spec nA A k _ _ ps _ hA (by omega) (by omega) hps (by omega) (by omega) hL9)) ?_
            rintro _ w96 ⟨h96, rfl, hN96, hl96, hE96⟩
            have hz96 := hE96.size
            replace hE := hE.trans hE96
            replace hA := hA.ext hE96
            replace hps := hps.ext hE96
            replace hB3 := hB3.ext hE96
            replace hB6 := hB6.ext hE96
            replace hI32 := hI32.ext hE96
            replace hI38 := hI38.ext hE96
            refine WL_s (ev_stores sz31 rfl rfl rfl (by simp [Value.oneCell']) hB6 (by simp)) ?_
            rintro _ w15_4 hS15_4
            have hz15_4 := hS15_4.size
            replace hE := hE.sto hS15_4 (by omega)
            replace hA := hA.sto hS15_4 (by omega)
            replace hps := hps.sto hS15_4 (by omega)
            replace hB3 := hB3.sto hS15_4 (by omega)
            replace hI32 := hI32.sto hS15_4 (by omega)
            replace hI38 := hI38.sto hS15_4 (by omega)
            replace hN96 := hN96.sto hS15_4 (by omega)
            replace hB6 : Blk w15_4 _ _ [_, _, _] := hS15_4.blk
            refine WL_q rfl (ev_assign rfl) ?_
            refine WL_nil ?_
            refine thenE_n ?_
            refine W_ret ?_
            refine retc2 rfl rfl st31 sz31 (cellsB hB6) rfl rfl ?_
            first | (exact ⟨⟨none, 0, none, 0, none, 0⟩, ⟨[], [], []⟩, _, rfl, .no (fun h => hp13 h.a), ⟨Nest.nil, Ints.nil, Ints.nil⟩, by decide, hE⟩) | (exact ⟨⟨none, 0, none, 0, none, 0⟩, ⟨[], [], []⟩, _, rfl, .no (fun h => tf hg17 (inR_true.2 (by have h1 := h.k1; have h2 := Nat.le_trans (Nat.le_mul_of_pos_right r.toNat (show 0 < A.ends.length by have := h.a.nodes; omega)) h.kn; omega))), ⟨Nest.nil, Ints.nil, Ints.nil⟩, by decide, hE⟩) | (exact ⟨⟨none, 0, none, 0, none, 0⟩, ⟨[], [], []⟩, _, rfl, .no (fun h => absurd (show k * A.ends.length ≤ 40 from h.kn) (by omega)), ⟨Nest.nil, Ints.nil, Ints.nil⟩, by decide, hE⟩) | (exact ⟨⟨none, 0, none, 0, none, 0⟩, ⟨[], [], []⟩, _, rfl, .no (fun h => absurd (show ps.length = (edL A.ends).length from h.len) (by omega)), ⟨Nest.nil, Ints.nil, Ints.nil⟩, by decide, hE⟩) | (exact ⟨⟨none, 0, none, 0, none, 0⟩, ⟨[], [], []⟩, _, rfl, .no (fun h => hp50 (h.perm i hl47)), ⟨Nest.nil, Ints.nil, Ints.nil⟩, by decide, hE⟩) | (exact ⟨⟨none, 0, none, 0, none, 0⟩, ⟨[], [], []⟩, _, rfl, .no (fun h => st_no hls hpv hp88 (h.stub i hl47 hlt ⟨hp69, hp77⟩ s (show s < k by omega))), ⟨Nest.nil, Ints.nil, Ints.nil⟩, by decide, hE⟩) | (exact ⟨h96, liftN A k ps, _, rfl, .yes hL9 rfl, hN96.mono (by omega) (by omega), hl96, hE⟩)

end Go.Proofs.Ytladejfcplpnaaa
