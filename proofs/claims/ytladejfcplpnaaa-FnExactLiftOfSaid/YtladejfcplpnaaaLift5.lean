/- Contract of impl.LiftOf. -/
import Derived.Test.YtladejfcplpnaaaLiftA
import Derived.Test.YtladejfcplpnaaaDrawY
namespace Go.Proofs.Ytladejfcplpnaaa
open Go Go.RowKit

theorem lfZ_d {A : Net} {k p d : Nat} (hd : p / k = d) (hl : d < A.ends.length) : lfZ A k p = List.replicate A.ends[d].length (0, 0) := by
  unfold lfZ; rw [hd, getD_eq hl]
theorem liI_d {A : Net} {k p d : Nat} (hd : p / k = d) (hl : d < A.inputs.length) : liI A k p = A.inputs[d] := by
  unfold liI; rw [hd, getD_eq hl]
theorem NV.net {l0 l hi r b d n : Nat} {w : World} {E T I : TypeId} {vs : List (Option Addr × Nat)} {xss : Ends} {inp : List Int} (h : NV l hi w E T b vs xss) (hB : Blk w d I (inp.map VI)) (e1 : xss.length = n) (e2 : inp.length = n) (hn : n ≤ 1048576) (h1 : l0 ≤ b) (h2 : l0 ≤ d) (h3 : d < l) (h4 : b ≠ d) (h5 : hi ≤ r) (h6 : l ≤ r) :
    OwnNet l0 r w E I ⟨some ⟨b, 0, none⟩, n, none, 0, some ⟨d, 0, none⟩, n⟩ ⟨xss, [], inp⟩ := by
  obtain ⟨hb, hBk, hO⟩ := h
  have hl := hO.len
  refine ⟨T, vs, ⟨hl, ?_, fun q hq => ?_, fun i h7 h8 => ?_, fun i h7 q hq => ?_, hO.sep, fun i h7 q x hq hx => ?_⟩, OwnH.nil, ⟨?_, fun x hx => ⟨?_, .inr (Nat.zero_le _)⟩⟩, (fun x y hx => by cases hx), (fun x y hx hy => by cases hy), fun x y hx hy => ?_, (fun i h7 x y hx hy => by cases hy), fun i h7 x y hx hy => ?_⟩
  · have := Own.of_front (lo := l0) (n := xss.length) (c := n) (sz := 1) (rest := []) (by rw [List.append_nil]; exact hBk) h1 (by omega) (by unfold maxLen; omega) (by simp [hl, e1]) (by simp [hl])
    exact this
  · cases hq; show b < r; omega
  · have := hO.own i h7 h8; rw [pairF_flat] at this; exact this.mono (by omega)
  · have := hO.top i h7 q hq; omega
  · cases hq; have := ((hO.own i h7 (by omega)).block x hx).1; show b ≠ x.block; omega
  · have := own_of_blk (n := n) hB h2 (by simp [e2]) hn
    show Own l0 w I 1 (some ⟨d, 0, none⟩) inp.length n (inp.map VI)
    rw [e2]; exact this
  · cases hx; show d < r; omega
  · cases hx; cases hy; exact h4
  · cases hy; have := ((hO.own i h7 (by omega)).block x hx).1; show x.block ≠ d; omega
theorem st_yes9 {p : List Int} {s t : Nat} (hs : s < p.length) (e : p[s] = (t : Int)) {h2 : t < p.length} (h : ¬ p[t] ≠ (s : Int)) : p.getD (p.getD s 0).toNat 0 = (s : Int) := by
  rw [getD_eq hs, e, Int.toNat_natCast, getD_eq h2]; exact Classical.byContradiction h
theorem st_no9 {p : List Int} {s t : Nat} (hs : s < p.length) (e : p[s] = (t : Int)) {h2 : t < p.length} (h : p[t] ≠ (s : Int)) : ¬ p.getD (p.getD s 0).toNat 0 = (s : Int) := by
  rw [getD_eq hs, e, Int.toNat_natCast, getD_eq h2]; exact h
theorem stq_q {A : Net} {m v i w j : Nat} (hq : QOk A m v i w j) : StQ ((v : Int), (i : Int), (w : Int), (j : Int)) ↔ StQ ((edL A.ends)[m]'hq.lt) := by rw [hq.eq]

set_option maxHeartbeats 2000000 in
set_option maxRecDepth 100000 in
theorem LiftOf_spec {loA hiA : Nat} (nA : NA) (A : Net) (r : Int) {lops hips : Nat} (aps : Option Addr) (cps : Nat) (ps : List (List Int)) (w : World) (hA : IsNet loA hiA w nA A) (hhiA : hiA ≤ w.heap.size) (hnA : totN A ≤ 1048576) (hps : Intss lops hips w aps cps ps) (hhips : hips ≤ w.heap.size) (hnps : totL ps ≤ 1048576) :
    Fn Try.prog 11 #[netV nA A, VI r, .slice aps ps.length cps] w (fun o9 w' => ∃ h' U q, o9 = .tuple #[netV h' U, VB q] ∧ RV (⟨[], [], []⟩ : Net) (opt (LF A r.toNat ps) (liftN A r.toNat ps)) U q ∧ OwnNet w.heap.size w'.heap.size w' 61 3 h' U ∧ totN U ≤ 1048576 ∧ Ext w w') := by
  have hqA := totL_len A.ends
  have hmA : totL A.ends + A.ids.length + A.inputs.length ≤ 1048576 := hnA
  have hE := Ext.refl w
  refine Fn_of Try.func11 rfl rfl (by kernel_rfl) rfl ?_
  refine W_seq ?_
  refine W_region ?_
  refine WL_m rfl (ev_box rfl) ?_
  rintro _ w3 ⟨rfl, hN3⟩
  have hz3 := hN3.size
  replace hE := hE.trans hN3.ext
  replace hA := hA.ext hN3.ext
  replace hps := hps.ext hN3.ext
  have hB3 : Blk w3 _ _ [_, _, _] := hN3.blk
  refine WL_m rfl (ev_alloc zr31) ?_
  rintro _ w6 ⟨rfl, hN6⟩
  have hz6 := hN6.size
  replace hE := hE.trans hN6.ext
  replace hA := hA.ext hN6.ext
  replace hps := hps.ext hN6.ext
  replace hB3 := hB3.ext hN6.ext
  have hB6 : Blk w6 _ _ [_, _, _] := hN6.blk
  refine WL_q rfl (ev_assign rfl) ?_
  refine WL_nil ?_
  refine thenE_n ?_
  refine W_seq ?_
  refine W_seq ?_
  refine W_region ?_
  refine WL_q rfl (ev_loads st31 sz31 rfl (cellsB hB3) rfl) ?_
  refine WL_m rfl (ev_call rfl (IsNetwork_spec _ A _ hA (by omega) (by omega))) ?_
  rintro _ w17 ⟨b17, rfl, hb17, hE17⟩
  have hz17 := hE17.size
  replace hE := hE.trans hE17
  replace hA := hA.ext hE17
  replace hps := hps.ext hE17
  replace hB3 := hB3.ext hE17
  replace hB6 := hB6.ext hE17
  refine WL_q rfl (ev_not rfl) ?_
  refine WL_q rfl (ev_move rfl) ?_
  refine WL_splitv (t := 19) rfl (fun hg18 => ?_) (fun hg18 => ?_)
  · have hg17 := not_true hg18
    have hp17 := ttN hb17 hg17
    refine WL_no rfl rfl hg18 rfl ?_
    refine WL_no rfl rfl hg18 rfl ?_
    refine WL_no rfl rfl hg18 rfl ?_
    refine WL_q rfl (ev_pick_t rfl hg18 rfl) ?_
    refine WL_q rfl (ev_move rfl) ?_
    refine WL_no rfl rfl rfl rfl ?_
    refine WL_no rfl rfl rfl rfl ?_
    refine WL_no rfl rfl rfl rfl ?_
    refine WL_no rfl rfl rfl rfl ?_
    refine WL_no rfl rfl rfl rfl ?_
    refine WL_no rfl rfl rfl rfl ?_
    refine WL_q rfl (ev_pick_t rfl rfl rfl) ?_
    refine WL_q rfl (ev_move rfl) ?_
    refine WL_no rfl rfl rfl rfl ?_
    refine WL_no rfl rfl rfl rfl ?_
    refine WL_no rfl rfl rfl rfl ?_
    refine WL_no rfl rfl rfl rfl ?_
    refine WL_no rfl rfl rfl rfl ?_
    refine WL_no rfl rfl rfl rfl ?_
    refine WL_q rfl (ev_pick_t rfl rfl rfl) ?_
    refine WL_nil ?_
    refine thenE_n ?_
    refine W_cond_t rfl ?_
    refine W_seq ?_
    refine W_region ?_
    refine WL_q rfl (ev_buildP0 sn31_3 zr31 ) ?_
    refine WL_s (ev_stores sz31 rfl rfl rfl (by simp [Value.oneCell']) hB6 (by simp)) ?_
    rintro _ w2_1 hS2_1
    have hz2_1 := hS2_1.size
    replace hE := hE.sto hS2_1 (by omega)
    replace hA := hA.sto hS2_1 (by omega)
    replace hps := hps.sto hS2_1 (by omega)
    replace hB3 := hB3.sto hS2_1 (by omega)
    replace hB6 : Blk w2_1 _ _ [_, _, _] := hS2_1.blk
    refine WL_q rfl (ev_assign rfl) ?_
    refine WL_nil ?_
    refine thenE_n ?_
    refine W_ret ?_
    refine thenE_r ?_
    refine retc2 rfl rfl st31 sz31 (cellsB hB6) rfl rfl ?_
    first | (exact ⟨⟨none, 0, none, 0, none, 0⟩, ⟨[], [], []⟩, _, rfl, .no (fun h => hp17 h.a), OwnNet.nil, by decide, hE⟩) | (exact ⟨⟨none, 0, none, 0, none, 0⟩, ⟨[], [], []⟩, _, rfl, .no (fun h => tf hg21 (inR_true.2 (by have h1 := h.k1; have h2 := Nat.le_trans (Nat.le_mul_of_pos_right r.toNat (show 0 < A.ends.length by have := h.a.nodes; omega)) h.kn; omega))), OwnNet.nil, by decide, hE⟩) | (exact ⟨⟨none, 0, none, 0, none, 0⟩, ⟨[], [], []⟩, _, rfl, .no (fun h => absurd (show k * A.ends.length ≤ 40 from h.kn) (by omega)), OwnNet.nil, by decide, hE⟩) | (exact ⟨⟨none, 0, none, 0, none, 0⟩, ⟨[], [], []⟩, _, rfl, .no (fun h => absurd (show ps.length = (edL A.ends).length from h.len) (by omega)), OwnNet.nil, by decide, hE⟩) | (exact ⟨⟨none, 0, none, 0, none, 0⟩, ⟨[], [], []⟩, _, rfl, .no (fun h => hp99 (h.perm m hlps)), OwnNet.nil, by decide, hE⟩) | (exact ⟨⟨none, 0, none, 0, none, 0⟩, ⟨[], [], []⟩, _, rfl, .no (fun h => st_no9 hsl2 ht9 hp117 (h.stub m hlps hlm ((stq_q hq).1 hp107) s (show s < k by omega))), OwnNet.nil, by decide, hE⟩) | (exact hq162.elim (fun ⟨e1, h1, e2, e3⟩ => (by subst e1 e2 e3; exact ⟨_, liftN A k ps, _, rfl, .yes hL9 rfl, hON.up (by omega) (by omega), lift_tot hL9, hE⟩)) (fun ⟨e1, h1, e2, e3⟩ => absurd (lift_ok hL9) h1))
  · have hg17 := not_false hg18
    have hp17 := hb17.1 hg17
    refine WL_qg rfl rfl hg18 rfl (ev_move rfl) ?_
    refine WL_mg rfl rfl hg18 rfl (ev_call rfl (within_spec _ _ _ _)) ?_
    rintro _ _ ⟨rfl, rfl⟩
    refine WL_qg rfl rfl hg18 rfl (ev_not rfl) ?_
    refine WL_q rfl (ev_pick_f rfl hg18 rfl) ?_
    refine WL_q rfl (ev_move rfl) ?_
    refine WL_splitv (t := 24) rfl (fun hg22 => ?_) (fun hg22 => ?_)
    · have hg21 := not_true hg22
      have hp21 := inR_false.1 hg21
      refine WL_no rfl rfl hg22 rfl ?_
      refine WL_no rfl rfl hg22 rfl ?_
      refine WL_no rfl rfl hg22 rfl ?_
      refine WL_no rfl rfl hg22 rfl ?_
      refine WL_no rfl rfl hg22 rfl ?_
      refine WL_no rfl rfl hg22 rfl ?_
      refine WL_q rfl (ev_pick_t rfl hg22 rfl) ?_
      refine WL_q rfl (ev_move rfl) ?_
      refine WL_no rfl rfl rfl rfl ?_
      refine WL_no rfl rfl rfl rfl ?_
      refine WL_no rfl rfl rfl rfl ?_
      refine WL_no rfl rfl rfl rfl ?_
      refine WL_no rfl rfl rfl rfl ?_
      refine WL_no rfl rfl rfl rfl ?_
      refine WL_q rfl (ev_pick_t rfl rfl rfl) ?_
      refine WL_nil ?_
      refine thenE_n ?_
      refine W_cond_t rfl ?_
      refine W_seq ?_
      refine W_region ?_
      refine WL_q rfl (ev_buildP0 sn31_3 zr31 ) ?_
      refine WL_s (ev_stores sz31 rfl rfl rfl (by simp [Value.oneCell']) hB6 (by simp)) ?_
      rintro _ w2_1 hS2_1
      have hz2_1 := hS2_1.size
      replace hE := hE.sto hS2_1 (by omega)
      replace hA := hA.sto hS2_1 (by omega)
      replace hps := hps.sto hS2_1 (by omega)
      replace hB3 := hB3.sto hS2_1 (by omega)
      replace hB6 : Blk w2_1 _ _ [_, _, _] := hS2_1.blk
      refine WL_q rfl (ev_assign rfl) ?_
      refine WL_nil ?_
      refine thenE_n ?_
      refine W_ret ?_
      refine thenE_r ?_
      refine retc2 rfl rfl st31 sz31 (cellsB hB6) rfl rfl ?_
      first | (exact ⟨⟨none, 0, none, 0, none, 0⟩, ⟨[], [], []⟩, _, rfl, .no (fun h => hp17 h.a), OwnNet.nil, by decide, hE⟩) | (exact ⟨⟨none, 0, none, 0, none, 0⟩, ⟨[], [], []⟩, _, rfl, .no (fun h => tf hg21 (inR_true.2 (by have h1 := h.k1; have h2 := Nat.le_trans (Nat.le_mul_of_pos_right r.toNat (show 0 < A.ends.length by have := h.a.nodes; omega)) h.kn; omega))), OwnNet.nil, by decide, hE⟩) | (exact ⟨⟨none, 0, none, 0, none, 0⟩, ⟨[], [], []⟩, _, rfl, .no (fun h => absurd (show k * A.ends.length ≤ 40 from h.kn) (by omega)), OwnNet.nil, by decide, hE⟩) | (exact ⟨⟨none, 0, none, 0, none, 0⟩, ⟨[], [], []⟩, _, rfl, .no (fun h => absurd (show ps.length = (edL A.ends).length from h.len) (by omega)), OwnNet.nil, by decide, hE⟩) | (exact ⟨⟨none, 0, none, 0, none, 0⟩, ⟨[], [], []⟩, _, rfl, .no (fun h => hp99 (h.perm m hlps)), OwnNet.nil, by decide, hE⟩) | (exact ⟨⟨none, 0, none, 0, none, 0⟩, ⟨[], [], []⟩, _, rfl, .no (fun h => st_no9 hsl2 ht9 hp117 (h.stub m hlps hlm ((stq_q hq).1 hp107) s (show s < k by omega))), OwnNet.nil, by decide, hE⟩) | (exact hq162.elim (fun ⟨e1, h1, e2, e3⟩ => (by subst e1 e2 e3; exact ⟨_, liftN A k ps, _, rfl, .yes hL9 rfl, hON.up (by omega) (by omega), lift_tot hL9, hE⟩)) (fun ⟨e1, h1, e2, e3⟩ => absurd (lift_ok hL9) h1))
    · have hg21 := not_false hg22
      have hp21 := inR_true.1 hg21
      obtain ⟨k, hk9⟩ : ∃ k : Nat, r = (k : Int) := ⟨r.toNat, by omega⟩
      subst hk9
      have hkt : ((k : Int)).toNat = k := by omega
      have hndA := hp17.nodes
      have hinA := hp17.inLen
      have h6 := hp17.six
      have h40 : A.ends.length ≤ 40 := by omega
      have hkm : k * A.ends.length ≤ 40 * 40 := Nat.mul_le_mul (by omega) h40
      have hkm2 : (k : Int) * (A.ends.length : Int) = ((k * A.ends.length : Nat) : Int) := by rw [Int.natCast_mul]
      have hbd := edL_bd h6 h40
      have hkA := hp17
      obtain ⟨N9, hN9⟩ : ∃ N9, k * A.ends.length = N9 := ⟨_, rfl⟩
      rw [hN9] at hkm hkm2
      refine WL_qg rfl rfl hg22 rfl (ev_move rfl) ?_
      refine WL_qg rfl rfl hg22 rfl (ev_fieldAddr fo31_0 rfl) ?_
      refine WL_qg rfl rfl hg22 rfl (ev_load one29 rfl (hB3.cell rfl)) ?_
      refine WL_qg rfl rfl hg22 rfl (ev_len Try.underlying29 rfl) ?_
      refine WL_qg rfl rfl hg22 rfl (ev_mul rfl rfl (by omega)) ?_
      refine WL_qg rfl rfl hg22 rfl (ev_gtr rfl rfl) ?_
      refine WL_q rfl (ev_pick_f rfl hg22 rfl) ?_
      refine WL_q rfl (ev_move rfl) ?_
      refine WL_splitv (t := 32) rfl (fun hg30 => ?_) (fun hg30 => ?_)
      · have hp30 := of_decide_eq_true hg30
        refine WL_no rfl rfl hg30 rfl ?_
        refine WL_no rfl rfl hg30 rfl ?_
        refine WL_no rfl rfl hg30 rfl ?_
        refine WL_no rfl rfl hg30 rfl ?_
        refine WL_no rfl rfl hg30 rfl ?_
        refine WL_no rfl rfl hg30 rfl ?_
        refine WL_q rfl (ev_pick_t rfl hg30 rfl) ?_
        refine WL_nil ?_
        refine thenE_n ?_
        refine W_cond_t rfl ?_
        refine W_seq ?_
        refine W_region ?_
        refine WL_q rfl (ev_buildP0 sn31_3 zr31 ) ?_
        refine WL_s (ev_stores sz31 rfl rfl rfl (by simp [Value.oneCell']) hB6 (by simp)) ?_
        rintro _ w2_1 hS2_1
        have hz2_1 := hS2_1.size
        replace hE := hE.sto hS2_1 (by omega)
        replace hA := hA.sto hS2_1 (by omega)
        replace hps := hps.sto hS2_1 (by omega)
        replace hB3 := hB3.sto hS2_1 (by omega)
        replace hB6 : Blk w2_1 _ _ [_, _, _] := hS2_1.blk
        refine WL_q rfl (ev_assign rfl) ?_
        refine WL_nil ?_
        refine thenE_n ?_
        refine W_ret ?_
        refine thenE_r ?_
        refine retc2 rfl rfl st31 sz31 (cellsB hB6) rfl rfl ?_
        first | (exact ⟨⟨none, 0, none, 0, none, 0⟩, ⟨[], [], []⟩, _, rfl, .no (fun h => hp17 h.a), OwnNet.nil, by decide, hE⟩) | (exact ⟨⟨none, 0, none, 0, none, 0⟩, ⟨[], [], []⟩, _, rfl, .no (fun h => tf hg21 (inR_true.2 (by have h1 := h.k1; have h2 := Nat.le_trans (Nat.le_mul_of_pos_right r.toNat (show 0 < A.ends.length by have := h.a.nodes; omega)) h.kn; omega))), OwnNet.nil, by decide, hE⟩) | (exact ⟨⟨none, 0, none, 0, none, 0⟩, ⟨[], [], []⟩, _, rfl, .no (fun h => absurd (show k * A.ends.length ≤ 40 from h.kn) (by omega)), OwnNet.nil, by decide, hE⟩) | (exact ⟨⟨none, 0, none, 0, none, 0⟩, ⟨[], [], []⟩, _, rfl, .no (fun h => absurd (show ps.length = (edL A.ends).length from h.len) (by omega)), OwnNet.nil, by decide, hE⟩) | (exact ⟨⟨none, 0, none, 0, none, 0⟩, ⟨[], [], []⟩, _, rfl, .no (fun h => hp99 (h.perm m hlps)), OwnNet.nil, by decide, hE⟩) | (exact ⟨⟨none, 0, none, 0, none, 0⟩, ⟨[], [], []⟩, _, rfl, .no (fun h => st_no9 hsl2 ht9 hp117 (h.stub m hlps hlm ((stq_q hq).1 hp107) s (show s < k by omega))), OwnNet.nil, by decide, hE⟩) | (exact hq162.elim (fun ⟨e1, h1, e2, e3⟩ => (by subst e1 e2 e3; exact ⟨_, liftN A k ps, _, rfl, .yes hL9 rfl, hON.up (by omega) (by omega), lift_tot hL9, hE⟩)) (fun ⟨e1, h1, e2, e3⟩ => absurd (lift_ok hL9) h1))
      · have hp30 := of_decide_eq_false hg30
        refine WL_qg rfl rfl hg30 rfl (ev_move rfl) ?_
        refine WL_qg rfl rfl hg30 rfl (ev_len Try.underlying26 rfl) ?_
        refine WL_qg rfl rfl hg30 rfl (ev_loads st31 sz31 rfl (cellsB hB3) rfl) ?_
        refine WL_mg rfl rfl hg30 rfl (ev_call rfl (edges_spec _ A _ hA (by omega) (by omega) (by assumption) (by omega))) ?_
        rintro _ w36 ⟨a36, c36, rfl, hO36, hE36⟩
        have hz36 := hE36.size
        replace hE := hE.trans hE36
        replace hA := hA.ext hE36
        replace hps := hps.ext hE36
        replace hB3 := hB3.ext hE36
        replace hB6 := hB6.ext hE36
        have hQ36 := hO36.quads rfl
        refine WL_qg rfl rfl hg30 rfl (ev_len Try.underlying54 rfl) ?_
        refine WL_qg rfl rfl hg30 rfl (ev_neq rfl rfl) ?_
        refine WL_q rfl (ev_pick_f rfl hg30 rfl) ?_
        refine WL_nil ?_
        refine thenE_n ?_
        refine W_cond rfl (fun hg38 => ?_) (fun hg38 => ?_)
        · have hp38 := of_decide_eq_true hg38
          refine W_seq ?_
          refine W_region ?_
          refine WL_q rfl (ev_buildP0 sn31_3 zr31 ) ?_
          refine WL_s (ev_stores sz31 rfl rfl rfl (by simp [Value.oneCell']) hB6 (by simp)) ?_
          rintro _ w2_1 hS2_1
          have hz2_1 := hS2_1.size
          replace hE := hE.sto hS2_1 (by omega)
          replace hA := hA.sto hS2_1 (by omega)
          replace hps := hps.sto hS2_1 (by omega)
          replace hB3 := hB3.sto hS2_1 (by omega)
          replace hQ36 := hQ36.sto hS2_1 (by omega)
          replace hB6 : Blk w2_1 _ _ [_, _, _] := hS2_1.blk
          refine WL_q rfl (ev_assign rfl) ?_
          refine WL_nil ?_
          refine thenE_n ?_
          refine W_ret ?_
          refine thenE_r ?_
          refine retc2 rfl rfl st31 sz31 (cellsB hB6) rfl rfl ?_
          first | (exact ⟨⟨none, 0, none, 0, none, 0⟩, ⟨[], [], []⟩, _, rfl, .no (fun h => hp17 h.a), OwnNet.nil, by decide, hE⟩) | (exact ⟨⟨none, 0, none, 0, none, 0⟩, ⟨[], [], []⟩, _, rfl, .no (fun h => tf hg21 (inR_true.2 (by have h1 := h.k1; have h2 := Nat.le_trans (Nat.le_mul_of_pos_right r.toNat (show 0 < A.ends.length by have := h.a.nodes; omega)) h.kn; omega))), OwnNet.nil, by decide, hE⟩) | (exact ⟨⟨none, 0, none, 0, none, 0⟩, ⟨[], [], []⟩, _, rfl, .no (fun h => absurd (show k * A.ends.length ≤ 40 from h.kn) (by omega)), OwnNet.nil, by decide, hE⟩) | (exact ⟨⟨none, 0, none, 0, none, 0⟩, ⟨[], [], []⟩, _, rfl, .no (fun h => absurd (show ps.length = (edL A.ends).length from h.len) (by omega)), OwnNet.nil, by decide, hE⟩) | (exact ⟨⟨none, 0, none, 0, none, 0⟩, ⟨[], [], []⟩, _, rfl, .no (fun h => hp99 (h.perm m hlps)), OwnNet.nil, by decide, hE⟩) | (exact ⟨⟨none, 0, none, 0, none, 0⟩, ⟨[], [], []⟩, _, rfl, .no (fun h => st_no9 hsl2 ht9 hp117 (h.stub m hlps hlm ((stq_q hq).1 hp107) s (show s < k by omega))), OwnNet.nil, by decide, hE⟩) | (exact hq162.elim (fun ⟨e1, h1, e2, e3⟩ => (by subst e1 e2 e3; exact ⟨_, liftN A k ps, _, rfl, .yes hL9 rfl, hON.up (by omega) (by omega), lift_tot hL9, hE⟩)) (fun ⟨e1, h1, e2, e3⟩ => absurd (lift_ok hL9) h1))
        · have hp38 := of_decide_eq_false hg38
          refine W_skip ?_
          refine thenE_n ?_
          refine W_seq ?_
          refine W_drawT (X := Nat × Nat × Nat) (fun x => [(8, ptr x.1 0)]) (fun x w' => (w36.heap.size ≤ x.1 ∧ x.1 < w'.heap.size ∧ w36.heap.size ≤ x.2.1 ∧ x.2.1 < w'.heap.size ∧ w36.heap.size ≤ x.2.2 ∧ x.2.2 < w'.heap.size ∧ x.2.1 ≠ x.2.2) ∧ (x.1 ≠ x.2.1 ∧ x.1 ≠ x.2.2) ∧ Blk w' x.1 31 [.slice (some ⟨x.2.1, 0, none⟩) N9 N9, .slice none 0 0, .slice (some ⟨x.2.2, 0, none⟩) N9 N9] ∧ Blk w' x.2.1 56 (List.replicate N9 (.slice none 0 0)) ∧ Blk w' x.2.2 3 (List.replicate N9 (VI 0)) ∧ Ext w36 w') w36.heap.size (by omega) (.q 0 (.q 1 (.q 2 (.q 3 (.q 4 (.q 6 (.q 7 (.q 8 (.q 9 (.q 10 (.c 5 (.b 11 (.q 12 (.a 13 (.a 14 .done))) 13 (.a 11 (.q 12 (.a 14 .done)))) 11 (.b 5 (.q 12 (.a 13 (.a 14 .done))) 13 (.a 5 (.q 12 (.a 14 .done)))) 13 (.b 5 (.a 11 (.q 12 (.a 14 .done))) 11 (.a 5 (.q 12 (.a 14 .done))))))))))))))) mixed (by kernel_rfl) rfl (by kernel_rfl) ?_ ?_
          · have hT := Ext.refl w36
            intro wd3 hEd3 hzd3
            replace hE := hE.trans hEd3
            replace hT := hT.trans hEd3
            replace hA := hA.ext hEd3
            replace hps := hps.ext hEd3
            replace hB3 := hB3.ext hEd3
            replace hB6 := hB6.ext hEd3
            replace hQ36 := hQ36.ext hEd3
            have hDd3 := (Lo.refl (by omega) : Lo w36.heap.size wd3 wd3)
            refine PT_q rfl rfl (fun wq hq => ev_move rfl) ?_
            refine PT_q rfl rfl (fun wq hq => ev_fieldAddr fo31_0 rfl) ?_
            refine PT_q rfl rfl (fun wq hq => ev_load one29 rfl ((hB3.lo hq.1 (by omega)).cell rfl)) ?_
            refine PT_q rfl rfl (fun wq hq => ev_len Try.underlying29 rfl) ?_
            refine PT_q rfl rfl (fun wq hq => ev_mul rfl rfl (by omega)) ?_
            rw [hkm2]
            refine PT_q rfl rfl (fun wq hq => ev_move rfl) ?_
            refine PT_q rfl rfl (fun wq hq => ev_fieldAddr fo31_0 rfl) ?_
            refine PT_q rfl rfl (fun wq hq => ev_load one29 rfl ((hB3.lo hq.1 (by omega)).cell rfl)) ?_
            refine PT_q rfl rfl (fun wq hq => ev_len Try.underlying29 rfl) ?_
            refine PT_q rfl rfl (fun wq hq => ev_mul rfl rfl (by omega)) ?_
            rw [hkm2]
            refine PT_c ?_ ?_ ?_
            · refine PA_m w36.heap.size rfl rfl (ev_makeN Try.underlying29 el56 rfl rfl rfl (by omega) (by omega)) ?_
              rintro _ w46 ⟨rfl, hN46⟩
              have hz46 := hN46.size
              replace hE := hE.trans hN46.ext
              replace hT := hT.trans hN46.ext
              replace hDd3 := hDd3.trans hN46.ext
              replace hA := hA.ext hN46.ext
              replace hps := hps.ext hN46.ext
              replace hB3 := hB3.ext hN46.ext
              replace hB6 := hB6.ext hN46.ext
              replace hQ36 := hQ36.ext hN46.ext
              have hB46 := hN46.blk
              refine ⟨by omega, fun _ hx => ⟨hDd3.lo hx (by omega), trivial⟩, ?_⟩
              have hDd3 := (Lo.refl (by omega) : Lo w36.heap.size w46 w46)
              refine PT_b ?_ ?_
              · refine PA_m w36.heap.size rfl rfl (ev_makeN Try.underlying23 el3 rfl rfl rfl (by omega) (by omega)) ?_
                rintro _ w52 ⟨rfl, hN52⟩
                have hz52 := hN52.size
                replace hE := hE.trans hN52.ext
                replace hT := hT.trans hN52.ext
                replace hDd3 := hDd3.trans hN52.ext
                replace hA := hA.ext hN52.ext
                replace hps := hps.ext hN52.ext
                replace hB3 := hB3.ext hN52.ext
                replace hB6 := hB6.ext hN52.ext
                replace hQ36 := hQ36.ext hN52.ext
                replace hB46 := hB46.ext hN52.ext
                have hB52 := hN52.blk
                refine ⟨by omega, fun _ hx => ⟨hDd3.lo hx (by omega), trivial⟩, ?_⟩
                have hDd3 := (Lo.refl (by omega) : Lo w36.heap.size w52 w52)
                refine PT_q rfl rfl (fun wq hq => ev_buildP2 sn31_3 zr31 rfl rfl rfl rfl rfl rfl) ?_
                refine PT_a ?_
                refine PA_m w36.heap.size rfl rfl (ev_alloc zr31) ?_
                rintro _ w8 ⟨rfl, hN8⟩
                have hz8 := hN8.size
                replace hE := hE.trans hN8.ext
                replace hT := hT.trans hN8.ext
                replace hDd3 := hDd3.trans hN8.ext
                replace hA := hA.ext hN8.ext
                replace hps := hps.ext hN8.ext
                replace hB3 := hB3.ext hN8.ext
                replace hB6 := hB6.ext hN8.ext
                replace hQ36 := hQ36.ext hN8.ext
                replace hB46 := hB46.ext hN8.ext
                replace hB52 := hB52.ext hN8.ext
                have hB8 : Blk w8 _ _ [_, _, _] := hN8.blk
                refine ⟨by omega, fun _ hx => ⟨hDd3.lo hx (by omega), trivial⟩, ?_⟩
                have hDd3 := (Lo.refl (by omega) : Lo w36.heap.size w8 w8)
                refine PT_a ?_
                refine PA_s w36.heap.size rfl (ev_stores sz31 rfl rfl rfl (by simp [Value.oneCell']) hB8 (by simp)) ?_
                rintro _ w3_14 hS3_14
                have hz3_14 := hS3_14.size
                replace hE := hE.sto hS3_14 (by omega)
                replace hT := hT.sto hS3_14 (by omega)
                replace hDd3 := hDd3.sto hS3_14 (by omega)
                replace hA := hA.sto hS3_14 (by omega)
                replace hps := hps.sto hS3_14 (by omega)
                replace hB3 := hB3.sto hS3_14 (by omega)
                replace hB6 := hB6.sto hS3_14 (by omega)
                replace hQ36 := hQ36.sto hS3_14 (by omega)
                replace hB46 := hB46.sto hS3_14 (by omega)
                replace hB52 := hB52.sto hS3_14 (by omega)
                replace hB8 : Blk w3_14 _ _ [_, _, _] := hS3_14.blk
                refine ⟨by omega, fun _ hx => ⟨hDd3.lo hx (by omega), trivial⟩, ?_⟩
                have hDd3 := (Lo.refl (by omega) : Lo w36.heap.size w3_14 w3_14)
                exact PT_nil 14 ⟨hB8.num, hB46.num, hB52.num⟩ rfl ⟨rfl, trivial⟩ rfl ⟨⟨(by (try dsimp only [Blk.num]); omega), (by (try dsimp only [Blk.num]); omega), (by (try dsimp only [Blk.num]); omega), (by (try dsimp only [Blk.num]); omega), (by (try dsimp only [Blk.num]); omega), (by (try dsimp only [Blk.num]); omega), (by (try dsimp only [Blk.num]); omega)⟩, ⟨(by (try dsimp only [Blk.num]); omega), (by (try dsimp only [Blk.num]); omega)⟩, hB8, hB46, hB52, hT⟩
              · refine PA_m w36.heap.size rfl rfl (ev_alloc zr31) ?_
                rintro _ w8 ⟨rfl, hN8⟩
                have hz8 := hN8.size
                replace hE := hE.trans hN8.ext
                replace hT := hT.trans hN8.ext
                replace hDd3 := hDd3.trans hN8.ext
                replace hA := hA.ext hN8.ext
                replace hps := hps.ext hN8.ext
                replace hB3 := hB3.ext hN8.ext
                replace hB6 := hB6.ext hN8.ext
                replace hQ36 := hQ36.ext hN8.ext
                replace hB46 := hB46.ext hN8.ext
                have hB8 : Blk w8 _ _ [_, _, _] := hN8.blk
                refine ⟨by omega, fun _ hx => ⟨hDd3.lo hx (by omega), trivial⟩, ?_⟩
                have hDd3 := (Lo.refl (by omega) : Lo w36.heap.size w8 w8)
                refine PT_a ?_
                refine PA_m w36.heap.size rfl rfl (ev_makeN Try.underlying23 el3 rfl rfl rfl (by omega) (by omega)) ?_
                rintro _ w52 ⟨rfl, hN52⟩
                have hz52 := hN52.size
                replace hE := hE.trans hN52.ext
                replace hT := hT.trans hN52.ext
                replace hDd3 := hDd3.trans hN52.ext
                replace hA := hA.ext hN52.ext
                replace hps := hps.ext hN52.ext
                replace hB3 := hB3.ext hN52.ext
                replace hB6 := hB6.ext hN52.ext
                replace hQ36 := hQ36.ext hN52.ext
                replace hB46 := hB46.ext hN52.ext
                replace hB8 := hB8.ext hN52.ext
                have hB52 := hN52.blk
                refine ⟨by omega, fun _ hx => ⟨hDd3.lo hx (by omega), trivial⟩, ?_⟩
                have hDd3 := (Lo.refl (by omega) : Lo w36.heap.size w52 w52)
                refine PT_q rfl rfl (fun wq hq => ev_buildP2 sn31_3 zr31 rfl rfl rfl rfl rfl rfl) ?_
                refine PT_a ?_
                refine PA_s w36.heap.size rfl (ev_stores sz31 rfl rfl rfl (by simp [Value.oneCell']) hB8 (by simp)) ?_
                rintro _ w3_14 hS3_14
                have hz3_14 := hS3_14.size
                replace hE := hE.sto hS3_14 (by omega)
                replace hT := hT.sto hS3_14 (by omega)
                replace hDd3 := hDd3.sto hS3_14 (by omega)
                replace hA := hA.sto hS3_14 (by omega)
                replace hps := hps.sto hS3_14 (by omega)
                replace hB3 := hB3.sto hS3_14 (by omega)
                replace hB6 := hB6.sto hS3_14 (by omega)
                replace hQ36 := hQ36.sto hS3_14 (by omega)
                replace hB46 := hB46.sto hS3_14 (by omega)
                replace hB52 := hB52.sto hS3_14 (by omega)
                replace hB8 : Blk w3_14 _ _ [_, _, _] := hS3_14.blk
                refine ⟨by omega, fun _ hx => ⟨hDd3.lo hx (by omega), trivial⟩, ?_⟩
                have hDd3 := (Lo.refl (by omega) : Lo w36.heap.size w3_14 w3_14)
                exact PT_nil 14 ⟨hB8.num, hB46.num, hB52.num⟩ rfl ⟨rfl, trivial⟩ rfl ⟨⟨(by (try dsimp only [Blk.num]); omega), (by (try dsimp only [Blk.num]); omega), (by (try dsimp only [Blk.num]); omega), (by (try dsimp only [Blk.num]); omega), (by (try dsimp only [Blk.num]); omega), (by (try dsimp only [Blk.num]); omega), (by (try dsimp only [Blk.num]); omega)⟩, ⟨(by (try dsimp only [Blk.num]); omega), (by (try dsimp only [Blk.num]); omega)⟩, hB8, hB46, hB52, hT⟩
            · refine PA_m w36.heap.size rfl rfl (ev_makeN Try.underlying23 el3 rfl rfl rfl (by omega) (by omega)) ?_
              rintro _ w52 ⟨rfl, hN52⟩
              have hz52 := hN52.size
              replace hE := hE.trans hN52.ext
              replace hT := hT.trans hN52.ext
              replace hDd3 := hDd3.trans hN52.ext
              replace hA := hA.ext hN52.ext
              replace hps := hps.ext hN52.ext
              replace hB3 := hB3.ext hN52.ext
              replace hB6 := hB6.ext hN52.ext
              replace hQ36 := hQ36.ext hN52.ext
              have hB52 := hN52.blk
              refine ⟨by omega, fun _ hx => ⟨hDd3.lo hx (by omega), trivial⟩, ?_⟩
              have hDd3 := (Lo.refl (by omega) : Lo w36.heap.size w52 w52)
              refine PT_b ?_ ?_
              · refine PA_m w36.heap.size rfl rfl (ev_makeN Try.underlying29 el56 rfl rfl rfl (by omega) (by omega)) ?_
                rintro _ w46 ⟨rfl, hN46⟩
                have hz46 := hN46.size
                replace hE := hE.trans hN46.ext
                replace hT := hT.trans hN46.ext
                replace hDd3 := hDd3.trans hN46.ext
                replace hA := hA.ext hN46.ext
                replace hps := hps.ext hN46.ext
                replace hB3 := hB3.ext hN46.ext
                replace hB6 := hB6.ext hN46.ext
                replace hQ36 := hQ36.ext hN46.ext
                replace hB52 := hB52.ext hN46.ext
                have hB46 := hN46.blk
                refine ⟨by omega, fun _ hx => ⟨hDd3.lo hx (by omega), trivial⟩, ?_⟩
                have hDd3 := (Lo.refl (by omega) : Lo w36.heap.size w46 w46)
                refine PT_q rfl rfl (fun wq hq => ev_buildP2 sn31_3 zr31 rfl rfl rfl rfl rfl rfl) ?_
                refine PT_a ?_
                refine PA_m w36.heap.size rfl rfl (ev_alloc zr31) ?_
                rintro _ w8 ⟨rfl, hN8⟩
                have hz8 := hN8.size
                replace hE := hE.trans hN8.ext
                replace hT := hT.trans hN8.ext
                replace hDd3 := hDd3.trans hN8.ext
                replace hA := hA.ext hN8.ext
                replace hps := hps.ext hN8.ext
                replace hB3 := hB3.ext hN8.ext
                replace hB6 := hB6.ext hN8.ext
                replace hQ36 := hQ36.ext hN8.ext
                replace hB52 := hB52.ext hN8.ext
                replace hB46 := hB46.ext hN8.ext
                have hB8 : Blk w8 _ _ [_, _, _] := hN8.blk
                refine ⟨by omega, fun _ hx => ⟨hDd3.lo hx (by omega), trivial⟩, ?_⟩
                have hDd3 := (Lo.refl (by omega) : Lo w36.heap.size w8 w8)
                refine PT_a ?_
                refine PA_s w36.heap.size rfl (ev_stores sz31 rfl rfl rfl (by simp [Value.oneCell']) hB8 (by simp)) ?_
                rintro _ w3_14 hS3_14
                have hz3_14 := hS3_14.size
                replace hE := hE.sto hS3_14 (by omega)
                replace hT := hT.sto hS3_14 (by omega)
                replace hDd3 := hDd3.sto hS3_14 (by omega)
                replace hA := hA.sto hS3_14 (by omega)
                replace hps := hps.sto hS3_14 (by omega)
                replace hB3 := hB3.sto hS3_14 (by omega)
                replace hB6 := hB6.sto hS3_14 (by omega)
                replace hQ36 := hQ36.sto hS3_14 (by omega)
                replace hB52 := hB52.sto hS3_14 (by omega)
                replace hB46 := hB46.sto hS3_14 (by omega)
                replace hB8 : Blk w3_14 _ _ [_, _, _] := hS3_14.blk
                refine ⟨by omega, fun _ hx => ⟨hDd3.lo hx (by omega), trivial⟩, ?_⟩
                have hDd3 := (Lo.refl (by omega) : Lo w36.heap.size w3_14 w3_14)
                exact PT_nil 14 ⟨hB8.num, hB46.num, hB52.num⟩ rfl ⟨rfl, trivial⟩ rfl ⟨⟨(by (try dsimp only [Blk.num]); omega), (by (try dsimp only [Blk.num]); omega), (by (try dsimp only [Blk.num]); omega), (by (try dsimp only [Blk.num]); omega), (by (try dsimp only [Blk.num]); omega), (by (try dsimp only [Blk.num]); omega), (by (try dsimp only [Blk.num]); omega)⟩, ⟨(by (try dsimp only [Blk.num]); omega), (by (try dsimp only [Blk.num]); omega)⟩, hB8, hB46, hB52, hT⟩
              · refine PA_m w36.heap.size rfl rfl (ev_alloc zr31) ?_
                rintro _ w8 ⟨rfl, hN8⟩
                have hz8 := hN8.size
                replace hE := hE.trans hN8.ext
                replace hT := hT.trans hN8.ext
                replace hDd3 := hDd3.trans hN8.ext
                replace hA := hA.ext hN8.ext
                replace hps := hps.ext hN8.ext
                replace hB3 := hB3.ext hN8.ext
                replace hB6 := hB6.ext hN8.ext
                replace hQ36 := hQ36.ext hN8.ext
                replace hB52 := hB52.ext hN8.ext
                have hB8 : Blk w8 _ _ [_, _, _] := hN8.blk
                refine ⟨by omega, fun _ hx => ⟨hDd3.lo hx (by omega), trivial⟩, ?_⟩
                have hDd3 := (Lo.refl (by omega) : Lo w36.heap.size w8 w8)
                refine PT_a ?_
                refine PA_m w36.heap.size rfl rfl (ev_makeN Try.underlying29 el56 rfl rfl rfl (by omega) (by omega)) ?_
                rintro _ w46 ⟨rfl, hN46⟩
                have hz46 := hN46.size
                replace hE := hE.trans hN46.ext
                replace hT := hT.trans hN46.ext
                replace hDd3 := hDd3.trans hN46.ext
                replace hA := hA.ext hN46.ext
                replace hps := hps.ext hN46.ext
                replace hB3 := hB3.ext hN46.ext
                replace hB6 := hB6.ext hN46.ext
                replace hQ36 := hQ36.ext hN46.ext
                replace hB52 := hB52.ext hN46.ext
                replace hB8 := hB8.ext hN46.ext
                have hB46 := hN46.blk
                refine ⟨by omega, fun _ hx => ⟨hDd3.lo hx (by omega), trivial⟩, ?_⟩
                have hDd3 := (Lo.refl (by omega) : Lo w36.heap.size w46 w46)
                refine PT_q rfl rfl (fun wq hq => ev_buildP2 sn31_3 zr31 rfl rfl rfl rfl rfl rfl) ?_
                refine PT_a ?_
                refine PA_s w36.heap.size rfl (ev_stores sz31 rfl rfl rfl (by simp [Value.oneCell']) hB8 (by simp)) ?_
                rintro _ w3_14 hS3_14
                have hz3_14 := hS3_14.size
                replace hE := hE.sto hS3_14 (by omega)
                replace hT := hT.sto hS3_14 (by omega)
                replace hDd3 := hDd3.sto hS3_14 (by omega)
                replace hA := hA.sto hS3_14 (by omega)
                replace hps := hps.sto hS3_14 (by omega)
                replace hB3 := hB3.sto hS3_14 (by omega)
                replace hB6 := hB6.sto hS3_14 (by omega)
                replace hQ36 := hQ36.sto hS3_14 (by omega)
                replace hB52 := hB52.sto hS3_14 (by omega)
                replace hB46 := hB46.sto hS3_14 (by omega)
                replace hB8 : Blk w3_14 _ _ [_, _, _] := hS3_14.blk
                refine ⟨by omega, fun _ hx => ⟨hDd3.lo hx (by omega), trivial⟩, ?_⟩
                have hDd3 := (Lo.refl (by omega) : Lo w36.heap.size w3_14 w3_14)
                exact PT_nil 14 ⟨hB8.num, hB46.num, hB52.num⟩ rfl ⟨rfl, trivial⟩ rfl ⟨⟨(by (try dsimp only [Blk.num]); omega), (by (try dsimp only [Blk.num]); omega), (by (try dsimp only [Blk.num]); omega), (by (try dsimp only [Blk.num]); omega), (by (try dsimp only [Blk.num]); omega), (by (try dsimp only [Blk.num]); omega), (by (try dsimp only [Blk.num]); omega)⟩, ⟨(by (try dsimp only [Blk.num]); omega), (by (try dsimp only [Blk.num]); omega)⟩, hB8, hB46, hB52, hT⟩
            · refine PA_m w36.heap.size rfl rfl (ev_alloc zr31) ?_
              rintro _ w8 ⟨rfl, hN8⟩
              have hz8 := hN8.size
              replace hE := hE.trans hN8.ext
              replace hT := hT.trans hN8.ext
              replace hDd3 := hDd3.trans hN8.ext
              replace hA := hA.ext hN8.ext
              replace hps := hps.ext hN8.ext
              replace hB3 := hB3.ext hN8.ext
              replace hB6 := hB6.ext hN8.ext
              replace hQ36 := hQ36.ext hN8.ext
              have hB8 : Blk w8 _ _ [_, _, _] := hN8.blk
              refine ⟨by omega, fun _ hx => ⟨hDd3.lo hx (by omega), trivial⟩, ?_⟩
              have hDd3 := (Lo.refl (by omega) : Lo w36.heap.size w8 w8)
              refine PT_b ?_ ?_
              · refine PA_m w36.heap.size rfl rfl (ev_makeN Try.underlying29 el56 rfl rfl rfl (by omega) (by omega)) ?_
                rintro _ w46 ⟨rfl, hN46⟩
                have hz46 := hN46.size
                replace hE := hE.trans hN46.ext
                replace hT := hT.trans hN46.ext
                replace hDd3 := hDd3.trans hN46.ext
                replace hA := hA.ext hN46.ext
                replace hps := hps.ext hN46.ext
                replace hB3 := hB3.ext hN46.ext
                replace hB6 := hB6.ext hN46.ext
                replace hQ36 := hQ36.ext hN46.ext
                replace hB8 := hB8.ext hN46.ext
                have hB46 := hN46.blk
                refine ⟨by omega, fun _ hx => ⟨hDd3.lo hx (by omega), trivial⟩, ?_⟩
                have hDd3 := (Lo.refl (by omega) : Lo w36.heap.size w46 w46)
                refine PT_a ?_
                refine PA_m w36.heap.size rfl rfl (ev_makeN Try.underlying23 el3 rfl rfl rfl (by omega) (by omega)) ?_
                rintro _ w52 ⟨rfl, hN52⟩
                have hz52 := hN52.size
                replace hE := hE.trans hN52.ext
                replace hT := hT.trans hN52.ext
                replace hDd3 := hDd3.trans hN52.ext
                replace hA := hA.ext hN52.ext
                replace hps := hps.ext hN52.ext
                replace hB3 := hB3.ext hN52.ext
                replace hB6 := hB6.ext hN52.ext
                replace hQ36 := hQ36.ext hN52.ext
                replace hB8 := hB8.ext hN52.ext
                replace hB46 := hB46.ext hN52.ext
                have hB52 := hN52.blk
                refine ⟨by omega, fun _ hx => ⟨hDd3.lo hx (by omega), trivial⟩, ?_⟩
                have hDd3 := (Lo.refl (by omega) : Lo w36.heap.size w52 w52)
                refine PT_q rfl rfl (fun wq hq => ev_buildP2 sn31_3 zr31 rfl rfl rfl rfl rfl rfl) ?_
                refine PT_a ?_
                refine PA_s w36.heap.size rfl (ev_stores sz31 rfl rfl rfl (by simp [Value.oneCell']) hB8 (by simp)) ?_
                rintro _ w3_14 hS3_14
                have hz3_14 := hS3_14.size
                replace hE := hE.sto hS3_14 (by omega)
                replace hT := hT.sto hS3_14 (by omega)
                replace hDd3 := hDd3.sto hS3_14 (by omega)
                replace hA := hA.sto hS3_14 (by omega)
                replace hps := hps.sto hS3_14 (by omega)
                replace hB3 := hB3.sto hS3_14 (by omega)
                replace hB6 := hB6.sto hS3_14 (by omega)
                replace hQ36 := hQ36.sto hS3_14 (by omega)
                replace hB46 := hB46.sto hS3_14 (by omega)
                replace hB52 := hB52.sto hS3_14 (by omega)
                replace hB8 : Blk w3_14 _ _ [_, _, _] := hS3_14.blk
                refine ⟨by omega, fun _ hx => ⟨hDd3.lo hx (by omega), trivial⟩, ?_⟩
                have hDd3 := (Lo.refl (by omega) : Lo w36.heap.size w3_14 w3_14)
                exact PT_nil 14 ⟨hB8.num, hB46.num, hB52.num⟩ rfl ⟨rfl, trivial⟩ rfl ⟨⟨(by (try dsimp only [Blk.num]); omega), (by (try dsimp only [Blk.num]); omega), (by (try dsimp only [Blk.num]); omega), (by (try dsimp only [Blk.num]); omega), (by (try dsimp only [Blk.num]); omega), (by (try dsimp only [Blk.num]); omega), (by (try dsimp only [Blk.num]); omega)⟩, ⟨(by (try dsimp only [Blk.num]); omega), (by (try dsimp only [Blk.num]); omega)⟩, hB8, hB46, hB52, hT⟩
              · refine PA_m w36.heap.size rfl rfl (ev_makeN Try.underlying23 el3 rfl rfl rfl (by omega) (by omega)) ?_
                rintro _ w52 ⟨rfl, hN52⟩
                have hz52 := hN52.size
                replace hE := hE.trans hN52.ext
                replace hT := hT.trans hN52.ext
                replace hDd3 := hDd3.trans hN52.ext
                replace hA := hA.ext hN52.ext
                replace hps := hps.ext hN52.ext
                replace hB3 := hB3.ext hN52.ext
                replace hB6 := hB6.ext hN52.ext
                replace hQ36 := hQ36.ext hN52.ext
                replace hB8 := hB8.ext hN52.ext
                have hB52 := hN52.blk
                refine ⟨by omega, fun _ hx => ⟨hDd3.lo hx (by omega), trivial⟩, ?_⟩
                have hDd3 := (Lo.refl (by omega) : Lo w36.heap.size w52 w52)
                refine PT_a ?_
                refine PA_m w36.heap.size rfl rfl (ev_makeN Try.underlying29 el56 rfl rfl rfl (by omega) (by omega)) ?_
                rintro _ w46 ⟨rfl, hN46⟩
                have hz46 := hN46.size
                replace hE := hE.trans hN46.ext
                replace hT := hT.trans hN46.ext
                replace hDd3 := hDd3.trans hN46.ext
                replace hA := hA.ext hN46.ext
                replace hps := hps.ext hN46.ext
                replace hB3 := hB3.ext hN46.ext
                replace hB6 := hB6.ext hN46.ext
                replace hQ36 := hQ36.ext hN46.ext
                replace hB8 := hB8.ext hN46.ext
                replace hB52 := hB52.ext hN46.ext
                have hB46 := hN46.blk
                refine ⟨by omega, fun _ hx => ⟨hDd3.lo hx (by omega), trivial⟩, ?_⟩
                have hDd3 := (Lo.refl (by omega) : Lo w36.heap.size w46 w46)
                refine PT_q rfl rfl (fun wq hq => ev_buildP2 sn31_3 zr31 rfl rfl rfl rfl rfl rfl) ?_
                refine PT_a ?_
                refine PA_s w36.heap.size rfl (ev_stores sz31 rfl rfl rfl (by simp [Value.oneCell']) hB8 (by simp)) ?_
                rintro _ w3_14 hS3_14
                have hz3_14 := hS3_14.size
                replace hE := hE.sto hS3_14 (by omega)
                replace hT := hT.sto hS3_14 (by omega)
                replace hDd3 := hDd3.sto hS3_14 (by omega)
                replace hA := hA.sto hS3_14 (by omega)
                replace hps := hps.sto hS3_14 (by omega)
                replace hB3 := hB3.sto hS3_14 (by omega)
                replace hB6 := hB6.sto hS3_14 (by omega)
                replace hQ36 := hQ36.sto hS3_14 (by omega)
                replace hB52 := hB52.sto hS3_14 (by omega)
                replace hB46 := hB46.sto hS3_14 (by omega)
                replace hB8 : Blk w3_14 _ _ [_, _, _] := hS3_14.blk
                refine ⟨by omega, fun _ hx => ⟨hDd3.lo hx (by omega), trivial⟩, ?_⟩
                have hDd3 := (Lo.refl (by omega) : Lo w36.heap.size w3_14 w3_14)
                exact PT_nil 14 ⟨hB8.num, hB46.num, hB52.num⟩ rfl ⟨rfl, trivial⟩ rfl ⟨⟨(by (try dsimp only [Blk.num]); omega), (by (try dsimp only [Blk.num]); omega), (by (try dsimp only [Blk.num]); omega), (by (try dsimp only [Blk.num]); omega), (by (try dsimp only [Blk.num]); omega), (by (try dsimp only [Blk.num]); omega), (by (try dsimp only [Blk.num]); omega)⟩, ⟨(by (try dsimp only [Blk.num]); omega), (by (try dsimp only [Blk.num]); omega)⟩, hB8, hB46, hB52, hT⟩
          rintro ⟨b8, b46, b52⟩ wt3 ⟨⟨hb1, hb2, hb3, hb4, hb5, hb6, hb7⟩, ⟨hb8, hb9⟩, hB8, hB46, hB52, hT⟩
          dsimp only [List.cons_append, List.nil_append]
          dsimp only at hb1 hb2 hb3 hb4 hb5 hb6 hb7 hb8 hb9 hB8 hB46 hB52
          replace hE := hE.trans hT
          replace hA := hA.ext hT
          replace hps := hps.ext hT
          replace hB3 := hB3.ext hT
          replace hB6 := hB6.ext hT
          replace hQ36 := hQ36.ext hT
          refine thenE_n ?_
          refine W_seq ?_
          refine W_seq ?_
          refine W_region ?_
          have hN40 : N9 ≤ 40 := by omega
          have hR0 : NR pairF 2 wt3.heap.size wt3.heap.size wt3 61 56 b46 0 0 0 (mixF (lfZ A k) (List.replicate N9 []) 0) := by rw [mixF_zero]; exact NR.made hB46 (by omega)
          have hBi0 : Blk wt3 b52 3 ((miI A k N9 0).map VI) := by rw [miI_zero, List.map_replicate]; exact hB52
          refine WL_q rfl (ev_fieldAddr fo31_0 rfl) ?_
          refine WL_q rfl (ev_load one29 rfl (hB8.cell rfl)) ?_
          refine WL_q rfl (ev_len Try.underlying29 rfl) ?_
          refine WL_q rfl (ev_move rfl) ?_
          refine WL_nil ?_
          refine thenE_n ?_
          refine W_block ?_
          refine W_loopC (G := Nat) [(1, _), (2, _), (3, _), (6, _), (8, _), (56, _)] ((Subs.c rfl (Subs.c rfl (Subs.c rfl (Subs.c rfl (Subs.c rfl (Subs.c rfl Subs.n))))))) (fun p => [(57, VI (p : Int))]) (fun p w' => Lo (w36.heap.size) wt3 w' ∧ p ≤ N9 ∧ Blk w' b8 31 [.slice (some ⟨b46, 0, none⟩) N9 N9, .slice none 0 0, .slice (some ⟨b52, 0, none⟩) N9 N9] ∧ NR pairF 2 wt3.heap.size w'.heap.size w' 61 56 b46 p 0 p (mixF (lfZ A k) (List.replicate N9 []) p) ∧ Blk w' b52 3 ((miI A k N9 p).map VI)) (fun g => N9 - g) 0 ((Subs.c (lkI rfl (by omega)) Subs.n)) (⟨Lo.refl (by omega), ⟨Nat.zero_le _, hB8, hR0, hBi0⟩⟩) ?_
          rintro p wL0 ⟨hRL0, hp', hB8, hR, hBi⟩
          have hzL0 := hRL0.size
          replace hA := hA.lo hRL0 (by omega)
          replace hps := hps.lo hRL0 (by omega)
          replace hB3 := hB3.lo hRL0 (by omega)
          replace hB6 := hB6.lo hRL0 (by omega)
          replace hQ36 := hQ36.lo hRL0 (by omega)
          replace hE := hE.lo hRL0 (by omega)
          have hmil := miI_len (A := A) (k := k) (N := N9) (p := p)
          refine W_seq ?_
          refine W_region ?_
          refine WL_q rfl (ev_lss rfl rfl) ?_
          refine WL_nil ?_
          refine thenE_n ?_
          refine W_seq ?_
          refine W_cond rfl (fun hg58 => ?_) (fun hg58 => ?_)
          · have hp58 := of_decide_eq_true hg58
            refine W_skip ?_
            refine thenE_n ?_
            refine W_seq ?_
            refine W_block ?_
            refine W_seq ?_
            refine W_region ?_
            refine WL_q rfl (ev_move rfl) ?_
            refine WL_q rfl (ev_assign rfl) ?_
            refine WL_nil ?_
            refine thenE_n ?_
            refine W_seq ?_
            refine W_drawZ 13 wL0.heap.size wL0.heap.size 0 0 (fun w' => True) [(0, true), (1, true), (2, true), (3, true), (4, true), (5, true), (6, true), (7, true), (8, true), (9, true), (10, true), (11, false), (12, true), (13, false)] mixed (by kernel_rfl) rfl (by kernel_rfl) (fun _ _ => trivial) ?_
            intro wd7 hEd7 hzd7
            replace hE := hE.trans hEd7
            replace hRL0 := hRL0.trans hEd7
            replace hA := hA.ext hEd7
            replace hps := hps.ext hEd7
            replace hB3 := hB3.ext hEd7
            replace hB6 := hB6.ext hEd7
            replace hQ36 := hQ36.ext hEd7
            replace hB8 := hB8.ext hEd7
            replace hR := hR.ext hEd7
            replace hBi := hBi.ext hEd7
            have hplt : p < N9 := by omega
            obtain ⟨d, hd⟩ : ∃ d, p / k = d := ⟨_, rfl⟩
            have hdl : d < A.ends.length := by rw [← hd]; exact Nat.div_lt_of_lt_mul (by rw [hN9]; exact hplt)
            have hdi : d < A.inputs.length := by omega
            have h6d := h6 _ (List.getElem_mem hdl)
            have hdiv : (p : Int) / (k : Int) = (d : Int) := by rw [← hd]; rfl
            replace hR := hR.fwd (i' := p) (m' := 0) (j' := p + 1) (Nat.le_refl _) (by omega)
            obtain ⟨vs, hbl, hBk, hOA0, hvm, hvj⟩ := hR
            have hvl := hOA0.len
            have hxl : (mixF (lfZ A k) (List.replicate N9 []) p).length = N9 := by simp [mixF_len]
            have hiv : p < vs.length := by omega
            have hDd7 := (Rg.refl : Rg wL0.heap.size wL0.heap.size 0 0 wd7 wd7)
            refine PZ_q rfl rfl rfl (fun wq hq => ev_fieldAddr fo31_0 rfl) ?_
            refine PZ_q rfl rfl rfl (fun wq hq => ev_load one29 rfl ((hB8.rg hq.1 (by omega)).cell rfl)) ?_
            refine PZ_q rfl rfl rfl (fun wq hq => ev_move rfl) ?_
            refine PZ_q rfl rfl rfl (fun wq hq => ev_fieldAddr fo31_0 rfl) ?_
            refine PZ_q rfl rfl rfl (fun wq hq => ev_load one29 rfl ((hB3.rg hq.1 (by omega)).cell rfl)) ?_
            refine PZ_q rfl rfl rfl (fun wq hq => ev_move rfl) ?_
            refine PZ_q rfl rfl rfl (fun wq hq => ev_move rfl) ?_
            refine PZ_q rfl rfl rfl (fun wq hq => ev_quo rfl rfl (by omega) (by omega) (by rw [hdiv]; exact ⟨by omega, by omega⟩)) ?_
            rw [hdiv]
            have hl68 : d < A.ends.length := by omega
            have ht68 := totL_le hl68
            obtain ⟨a68, c68, hc68, hr68⟩ := hA.ends.row hl68
            refine PZ_q rfl rfl rfl (fun wq hq => ev_indexAddr Try.underlying29 sz56 rfl rfl (hA.ends.isSome (by omega)) (by omega) (by omega)) ?_
            refine PZ_q rfl rfl rfl (fun wq hq => ev_load one56 rfl (hq.1.cell' hc68 (by have := hA.ends.rng (Nat.lt_of_le_of_lt (Nat.zero_le _) hl68); omega))) ?_
            refine PZ_q rfl rfl rfl (fun wq hq => ev_len Try.underlying56 rfl) ?_
            refine PZ_m rfl rfl rfl (ev_make2N Try.underlying56 el61 rfl rfl (by omega) (by omega)) ?_
            rintro _ w71 ⟨rfl, hN71⟩
            have hz71 := hN71.size
            replace hE := hE.trans hN71.ext
            replace hRL0 := hRL0.trans hN71.ext
            replace hDd7 := hDd7.trans hN71.ext
            have hB71 := hN71.blk
            have hOn := Own.of_new (n := A.ends[d].length) (sz := 2) hN71 (by simp) (by unfold maxLen; omega)
            refine ⟨⟨hDd7, trivial⟩, ?_⟩
            refine PZ_q rfl rfl rfl (fun wq hq => ev_indexAddr Try.underlying29 sz56 rfl rfl rfl (by omega) (by omega)) ?_
            replace hA := hA.rg hDd7 (by omega)
            replace hps := hps.rg hDd7 (by omega)
            replace hB3 := hB3.rg hDd7 (by omega)
            replace hB6 := hB6.rg hDd7 (by omega)
            replace hQ36 := hQ36.rg hDd7 (by omega)
            replace hB8 := hB8.rg hDd7 (by omega)
            replace hBi := hBi.rg hDd7 (by omega)
            replace hBk := hBk.rg hDd7 (by omega)
            replace hr68 := hr68.rg hDd7 (by omega)
            refine PZ_z rfl (ev_store sz56 rfl rfl rfl hBk (by simp; omega)) ?_
            rintro _ w7_13 hS7_13
            have hz7_13 := hS7_13.size
            replace hE := hE.sto hS7_13 (by omega)
            replace hRL0 := hRL0.sto hS7_13 (by omega)
            replace hA := hA.sto hS7_13 (by omega)
            replace hps := hps.sto hS7_13 (by omega)
            replace hB3 := hB3.sto hS7_13 (by omega)
            replace hB6 := hB6.sto hS7_13 (by omega)
            replace hQ36 := hQ36.sto hS7_13 (by omega)
            replace hB8 := hB8.sto hS7_13 (by omega)
            replace hBi := hBi.sto hS7_13 (by omega)
            replace hr68 := hr68.sto hS7_13 (by omega)
            replace hBk := hS7_13.blk
            have hR2 := NR.put (ys := List.replicate A.ends[d].length (0, 0)) hbl hOA0 (by omega) hiv hvm (by omega) hvj (by omega) (Keep.mono hN71.ext fun b9 hb9 => hb9.1) (by rw [pairF_flat, ← pc_zeros]; exact hOn.mono (by omega)) (by simp) (fun q hq => .inr (by cases hq; exact Nat.le_refl _)) hS7_13 (by omega) hBk
            replace hR2 := (hR2.any (i' := p + 1)).to (show _ = (mixF (lfZ A k) (List.replicate N9 []) (p + 1)) by rw [← lfZ_d hd hdl]; exact mixF_set (f := lfZ A k) (by simpa using hplt))
            refine PW_nil ?_
            refine thenE_n ?_
            refine W_drawK (b52) (fun w' => True) [(0, true), (1, true), (2, true), (3, true), (4, true), (5, true), (6, true), (7, true), (8, true), (9, true), (10, true), (11, false)] mixed (by kernel_rfl) rfl (by kernel_rfl) (fun _ _ => trivial) ?_
            intro wd8 hEd8 hzd8
            replace hE := hE.trans hEd8
            replace hRL0 := hRL0.trans hEd8
            replace hA := hA.ext hEd8
            replace hps := hps.ext hEd8
            replace hB3 := hB3.ext hEd8
            replace hB6 := hB6.ext hEd8
            replace hQ36 := hQ36.ext hEd8
            replace hB8 := hB8.ext hEd8
            replace hBi := hBi.ext hEd8
            replace hBk := hBk.ext hEd8
            replace hr68 := hr68.ext hEd8
            have hDd8 := KX.refl (b52) wd8
            refine PW_q rfl rfl (fun wq hq => ev_fieldAddr fo31_2 rfl) ?_
            refine PW_q rfl rfl (fun wq hq => ev_load one23 rfl ((hB8.kx hq.1 (by omega)).cell rfl)) ?_
            refine PW_q rfl rfl (fun wq hq => ev_move rfl) ?_
            refine PW_q rfl rfl (fun wq hq => ev_fieldAddr fo31_2 rfl) ?_
            refine PW_q rfl rfl (fun wq hq => ev_load one23 rfl ((hB3.kx hq.1 (by omega)).cell rfl)) ?_
            refine PW_q rfl rfl (fun wq hq => ev_move rfl) ?_
            refine PW_q rfl rfl (fun wq hq => ev_move rfl) ?_
            refine PW_q rfl rfl (fun wq hq => ev_quo rfl rfl (by omega) (by omega) (by rw [hdiv]; exact ⟨by omega, by omega⟩)) ?_
            rw [hdiv]
            refine PW_q rfl rfl (fun wq hq => ev_indexAddr Try.underlying23 sz3 rfl rfl (hA.inputs.isSome (by omega)) (by omega) (by omega)) ?_
            refine PW_q rfl rfl (fun wq hq => ev_load one3 rfl ((hA.inputs.kx hq.1 (by omega)).cellJ (i := d) (j := Int.toNat ((d : Nat) : Int)) (by omega) (by omega))) ?_
            refine PW_q rfl rfl (fun wq hq => ev_indexAddr Try.underlying23 sz3 rfl rfl rfl (by omega) (by omega)) ?_
            refine PW_s rfl (ev_store sz3 rfl rfl rfl hBi (by simp; omega)) ?_
            rintro _ w8_11 hS8_11
            have hz8_11 := hS8_11.size
            replace hE := hE.sto hS8_11 (by omega)
            replace hRL0 := hRL0.sto hS8_11 (by omega)
            replace hDd8 := hDd8.sto hS8_11 (by omega)
            replace hBi := hS8_11.blk
            replace hBi := iset (i := p) (by omega) hBi
            rw [miI_put (by rw [liI_d hd hdi])] at hBi
            have hR := (hR2.ext hEd8).sto3 hS8_11 (by omega) (by omega)
            refine ⟨⟨hDd8, trivial⟩, ?_⟩
            replace hA := hA.kx hDd8 (by omega)
            replace hps := hps.kx hDd8 (by omega)
            replace hB3 := hB3.kx hDd8 (by omega)
            replace hB6 := hB6.kx hDd8 (by omega)
            replace hQ36 := hQ36.kx hDd8 (by omega)
            replace hB8 := hB8.kx hDd8 (by omega)
            replace hBk := hBk.kx hDd8 (by omega)
            replace hr68 := hr68.kx hDd8 (by omega)
            refine PW_nil ?_
            refine blockE_n ?_
            refine thenE_n ?_
            refine W_region ?_
            refine WL_q rfl (ev_add rfl rfl (by omega)) ?_
            refine WL_q rfl (ev_move rfl) ?_
            refine WL_nil ?_
            refine thenE_n ?_
            exact ⟨p + 1, (Subs.c rfl (Subs.c rfl (Subs.c rfl (Subs.c rfl (Subs.c rfl (Subs.c rfl Subs.n)))))), (Subs.c (lkI rfl (by omega)) Subs.n), ⟨hRL0, ⟨by omega, hB8, hR.up (by omega), hBi⟩⟩, by first | omega | (dsimp only; omega)⟩
          · have hp58 := of_decide_eq_false hg58
            refine W_exit ?_
            refine thenE_x ?_
            refine thenE_x ?_
            refine blockE_hit ?_
            refine thenE_n ?_
            refine W_seq ?_
            refine W_seq ?_
            refine W_region ?_
            refine WL_q rfl (ev_loads st31 sz31 rfl (cellsB hB3) rfl) ?_
            refine WL_m rfl (ev_call rfl (edges_spec _ A _ hA (by omega) (by omega) (by assumption) (by omega))) ?_
            rintro _ w86 ⟨a86, c86, rfl, hO86, hE86⟩
            have hz86 := hE86.size
            replace hE := hE.trans hE86
            replace hA := hA.ext hE86
            replace hps := hps.ext hE86
            replace hB3 := hB3.ext hE86
            replace hB6 := hB6.ext hE86
            replace hQ36 := hQ36.ext hE86
            replace hB8 := hB8.ext hE86
            replace hR := hR.ext hE86
            replace hBi := hBi.ext hE86
            have hQ86 := hO86.quads rfl
            have hp9 : p = N9 := by omega
            rw [hp9] at hR hBi
            replace hR := hR.to (show _ = lfM A k ps 0 by rw [mixF_full (by simp), List.length_replicate, ← hN9]; rfl)
            rw [miI_full (ps := ps) hN9] at hBi
            obtain ⟨vs, hbl, hBk0, hOA0, hvm0, hvj0⟩ := hR
            have hV : NV wt3.heap.size wL0.heap.size w86 61 56 b46 vs (lfM A k ps 0) := ⟨hbl, hBk0, hOA0⟩
            refine WL_q rfl (ev_len Try.underlying54 rfl) ?_
            refine WL_q rfl (ev_move rfl) ?_
            refine WL_nil ?_
            refine thenE_n ?_
            refine W_block ?_
            refine W_loopC (G := Nat) [(1, _), (2, _), (6, _), (8, _), (86, _), (87, _)] ((Subs.c rfl (Subs.c rfl (Subs.c rfl (Subs.c rfl (Subs.c rfl (Subs.c rfl Subs.n))))))) (fun m => [(88, VI (m : Int))]) (fun m w' => Rg wt3.heap.size wL0.heap.size 0 0 w86 w' ∧ m ≤ (edL A.ends).length ∧ Blk w' b8 31 [.slice (some ⟨b46, 0, none⟩) N9 N9, .slice none 0 0, .slice (some ⟨b52, 0, none⟩) N9 N9] ∧ NV wt3.heap.size wL0.heap.size w' 61 56 b46 vs (lfM A k ps m) ∧ Blk w' b52 3 ((liftN A k ps).inputs.map VI) ∧ ∀ m' (_ : m' < m) (h2 : m' < ps.length), IsPerm ps[m'] k ∧ ∀ (h3 : m' < (edL A.ends).length), StQ (edL A.ends)[m'] → ∀ s, s < k → ps[m'].getD (ps[m'].getD s 0).toNat 0 = (s : Int)) (fun g => (edL A.ends).length - g) 0 ((Subs.c (lkI rfl (by omega)) Subs.n)) (⟨Rg.refl, ⟨Nat.zero_le _, hB8, hV, hBi, fun m' hm => absurd hm (Nat.not_lt_zero _)⟩⟩) ?_
            rintro m wL2 ⟨hRL2, hm', hB8, hV, hBi, hJ⟩
            have hzL2 := hRL2.size
            replace hA := hA.rg hRL2 (by omega)
            replace hps := hps.rg hRL2 (by omega)
            replace hB3 := hB3.rg hRL2 (by omega)
            replace hB6 := hB6.rg hRL2 (by omega)
            replace hQ36 := hQ36.rg hRL2 (by omega)
            replace hQ86 := hQ86.rg hRL2 (by omega)
            replace hE := hE.rg hRL2 (by omega)
            refine W_seq ?_
            refine W_region ?_
            refine WL_q rfl (ev_lss rfl rfl) ?_
            refine WL_nil ?_
            refine thenE_n ?_
            refine W_seq ?_
            refine W_cond rfl (fun hg89 => ?_) (fun hg89 => ?_)
            · have hp89 := of_decide_eq_true hg89
              refine W_skip ?_
              refine thenE_n ?_
              refine W_seq ?_
              refine W_block ?_
              refine W_seq ?_
              refine W_region ?_
              refine WL_q rfl (ev_move rfl) ?_
              have hlm : m < (edL A.ends).length := by omega
              have hlps : m < ps.length := by omega
              obtain ⟨v9, i9, w9, j9, hq⟩ := qok hkA hlm
              have hsh0 := lfM_shp (A := A) (k := k) (perms := ps) m
              refine WL_q rfl (ev_indexAddr Try.underlying54 sz58 rfl rfl (hQ86.isSome (by omega)) (by omega) (by omega)) ?_
              refine WL_q rfl (ev_loads st58 sz58 rfl (hQ86.cells (i := m) (by omega)) rfl) ?_
              rw [show qCells (edL A.ends)[m] = [VI (v9 : Int), VI (i9 : Int), VI (w9 : Int), VI (j9 : Int)] by rw [hq.eq]; rfl]
              refine WL_m rfl (ev_alloc zr58) ?_
              rintro _ w11 ⟨rfl, hN11⟩
              have hz11 := hN11.size
              replace hE := hE.trans hN11.ext
              replace hRL2 := hRL2.trans hN11.ext
              replace hA := hA.ext hN11.ext
              replace hps := hps.ext hN11.ext
              replace hB3 := hB3.ext hN11.ext
              replace hB6 := hB6.ext hN11.ext
              replace hQ36 := hQ36.ext hN11.ext
              replace hQ86 := hQ86.ext hN11.ext
              replace hB8 := hB8.ext hN11.ext
              replace hV := hV.ext hN11.ext
              replace hBi := hBi.ext hN11.ext
              have hB11 : Blk w11 _ _ [_, _, _, _] := hN11.blk
              refine WL_q rfl (ev_assign rfl) ?_
              refine WL_s (ev_stores sz58 rfl rfl rfl (by simp [Value.oneCell']) hB11 (by exact Nat.le_refl 4)) ?_
              rintro _ w12_5 hS12_5
              have hz12_5 := hS12_5.size
              replace hE := hE.sto hS12_5 (by omega)
              replace hRL2 := hRL2.sto hS12_5 (by omega)
              replace hA := hA.sto hS12_5 (by omega)
              replace hps := hps.sto hS12_5 (by omega)
              replace hB3 := hB3.sto hS12_5 (by omega)
              replace hB6 := hB6.sto hS12_5 (by omega)
              replace hQ36 := hQ36.sto hS12_5 (by omega)
              replace hQ86 := hQ86.sto hS12_5 (by omega)
              replace hB8 := hB8.sto hS12_5 (by omega)
              replace hV := hV.sto hS12_5 (by omega)
              replace hBi := hBi.sto hS12_5 (by omega)
              replace hB11 : Blk w12_5 _ _ [_, _, _, _] := hS12_5.blk
              refine WL_nil ?_
              refine thenE_n ?_
              refine W_seq ?_
              refine W_region ?_
              refine WL_q rfl (ev_move rfl) ?_
              refine WL_q rfl (ev_move rfl) ?_
              have hl95 : m < ps.length := by omega
              have ht95 := totL_le hl95
              obtain ⟨a95, c95, hc95, hr95⟩ := hps.row hl95
              refine WL_q rfl (ev_indexAddr Try.underlying26 sz23 rfl rfl (hps.isSome (by omega)) (by omega) (by omega)) ?_
              refine WL_q rfl (ev_load one23 rfl (hc95)) ?_
              refine WL_q rfl (ev_assign rfl) ?_
              refine WL_nil ?_
              refine thenE_n ?_
              refine W_seq ?_
              refine W_seq ?_
              refine W_region ?_
              refine WL_q rfl (ev_move rfl) ?_
              refine WL_q rfl (ev_move rfl) ?_
              refine WL_m rfl (ev_call rfl (isPermutation_spec _ _ ps[m] _ _ hr95 (by omega) (by omega) (by omega))) ?_
              rintro _ w99 ⟨b99, rfl, hb99, hE99⟩
              have hz99 := hE99.size
              replace hE := hE.trans hE99
              replace hRL2 := hRL2.trans hE99
              replace hA := hA.ext hE99
              replace hps := hps.ext hE99
              replace hB3 := hB3.ext hE99
              replace hB6 := hB6.ext hE99
              replace hQ36 := hQ36.ext hE99
              replace hQ86 := hQ86.ext hE99
              replace hB8 := hB8.ext hE99
              replace hV := hV.ext hE99
              replace hBi := hBi.ext hE99
              replace hB11 := hB11.ext hE99
              replace hr95 := hr95.ext hE99
              refine WL_q rfl (ev_not rfl) ?_
              refine WL_nil ?_
              refine thenE_n ?_
              refine W_cond rfl (fun hg100 => ?_) (fun hg100 => ?_)
              · have hg99 := not_true hg100
                have hp99 := ttN hb99 hg99
                refine W_seq ?_
                refine W_region ?_
                refine WL_q rfl (ev_buildP0 sn31_3 zr31 ) ?_
                refine WL_s (ev_stores sz31 rfl rfl rfl (by simp [Value.oneCell']) hB6 (by simp)) ?_
                rintro _ w15_1 hS15_1
                have hz15_1 := hS15_1.size
                replace hE := hE.sto hS15_1 (by omega)
                replace hA := hA.sto hS15_1 (by omega)
                replace hps := hps.sto hS15_1 (by omega)
                replace hB3 := hB3.sto hS15_1 (by omega)
                replace hQ36 := hQ36.sto hS15_1 (by omega)
                replace hQ86 := hQ86.sto hS15_1 (by omega)
                replace hB8 := hB8.sto hS15_1 (by omega)
                replace hV := hV.sto hS15_1 (by omega)
                replace hBi := hBi.sto hS15_1 (by omega)
                replace hB11 := hB11.sto hS15_1 (by omega)
                replace hr95 := hr95.sto hS15_1 (by omega)
                replace hB6 : Blk w15_1 _ _ [_, _, _] := hS15_1.blk
                refine WL_q rfl (ev_assign rfl) ?_
                refine WL_nil ?_
                refine thenE_n ?_
                refine W_ret ?_
                refine thenE_r ?_
                refine blockE_r ?_
                refine thenE_r ?_
                refine thenE_r ?_
                refine blockE_r ?_
                refine thenE_r ?_
                refine retc2 rfl rfl st31 sz31 (cellsB hB6) rfl rfl ?_
                first | (exact ⟨⟨none, 0, none, 0, none, 0⟩, ⟨[], [], []⟩, _, rfl, .no (fun h => hp17 h.a), OwnNet.nil, by decide, hE⟩) | (exact ⟨⟨none, 0, none, 0, none, 0⟩, ⟨[], [], []⟩, _, rfl, .no (fun h => tf hg21 (inR_true.2 (by have h1 := h.k1; have h2 := Nat.le_trans (Nat.le_mul_of_pos_right r.toNat (show 0 < A.ends.length by have := h.a.nodes; omega)) h.kn; omega))), OwnNet.nil, by decide, hE⟩) | (exact ⟨⟨none, 0, none, 0, none, 0⟩, ⟨[], [], []⟩, _, rfl, .no (fun h => absurd (show k * A.ends.length ≤ 40 from h.kn) (by omega)), OwnNet.nil, by decide, hE⟩) | (exact ⟨⟨none, 0, none, 0, none, 0⟩, ⟨[], [], []⟩, _, rfl, .no (fun h => absurd (show ps.length = (edL A.ends).length from h.len) (by omega)), OwnNet.nil, by decide, hE⟩) | (exact ⟨⟨none, 0, none, 0, none, 0⟩, ⟨[], [], []⟩, _, rfl, .no (fun h => hp99 (h.perm m hlps)), OwnNet.nil, by decide, hE⟩) | (exact ⟨⟨none, 0, none, 0, none, 0⟩, ⟨[], [], []⟩, _, rfl, .no (fun h => st_no9 hsl2 ht9 hp117 (h.stub m hlps hlm ((stq_q hq).1 hp107) s (show s < k by omega))), OwnNet.nil, by decide, hE⟩) | (exact hq162.elim (fun ⟨e1, h1, e2, e3⟩ => (by subst e1 e2 e3; exact ⟨_, liftN A k ps, _, rfl, .yes hL9 rfl, hON.up (by omega) (by omega), lift_tot hL9, hE⟩)) (fun ⟨e1, h1, e2, e3⟩ => absurd (lift_ok hL9) h1))
              · have hg99 := not_false hg100
                have hp99 := hb99.1 hg99
                refine W_skip ?_
                refine thenE_n ?_
                refine W_seq ?_
                refine W_region ?_
                have hpl := hp99.1
                refine WL_q rfl (ev_move rfl) ?_
                refine WL_q rfl (ev_move rfl) ?_
                refine WL_nil ?_
                refine thenE_n ?_
                refine W_block ?_
                refine W_loopC (G := Nat) [(1, _), (2, _), (6, _), (8, _), (11, _), (12, _), (86, _), (87, _), (88, _), (102, _)] ((Subs.c rfl (Subs.c rfl (Subs.c rfl (Subs.c rfl (Subs.c rfl (Subs.c rfl (Subs.c rfl (Subs.c rfl (Subs.c rfl (Subs.c rfl Subs.n))))))))))) (fun s => [(103, VI (s : Int))]) (fun s w' => Rg wt3.heap.size wL0.heap.size 0 0 w99 w' ∧ s ≤ k ∧ Blk w' b8 31 [.slice (some ⟨b46, 0, none⟩) N9 N9, .slice none 0 0, .slice (some ⟨b52, 0, none⟩) N9 N9] ∧ NV wt3.heap.size wL0.heap.size w' 61 56 b46 vs (lfS k ((edL A.ends).getD m (0, 0, 0, 0)) (ps.getD m []) (lfM A k ps m) s) ∧ Blk w' b52 3 ((liftN A k ps).inputs.map VI) ∧ ∀ u (_ : u < s), StQ ((v9 : Int), (i9 : Int), (w9 : Int), (j9 : Int)) → ps[m].getD (ps[m].getD u 0).toNat 0 = (u : Int)) (fun g => k - g) 0 ((Subs.c (lkI rfl (by omega)) Subs.n)) (⟨Rg.refl, ⟨Nat.zero_le _, hB8, hV, hBi, fun u hu => absurd hu (Nat.not_lt_zero _)⟩⟩) ?_
                rintro s wL4 ⟨hRL4, hs', hB8, hV, hBi, hJ2⟩
                have hzL4 := hRL4.size
                replace hA := hA.rg hRL4 (by omega)
                replace hps := hps.rg hRL4 (by omega)
                replace hB3 := hB3.rg hRL4 (by omega)
                replace hB6 := hB6.rg hRL4 (by omega)
                replace hQ36 := hQ36.rg hRL4 (by omega)
                replace hQ86 := hQ86.rg hRL4 (by omega)
                replace hB11 := hB11.rg hRL4 (by omega)
                replace hr95 := hr95.rg hRL4 (by omega)
                replace hE := hE.rg hRL4 (by omega)
                replace hRL2 := hRL2.rg hRL4 (by omega)
                refine W_seq ?_
                refine W_region ?_
                refine WL_q rfl (ev_lss rfl rfl) ?_
                refine WL_nil ?_
                refine thenE_n ?_
                refine W_seq ?_
                refine W_cond rfl (fun hg104 => ?_) (fun hg104 => ?_)
                · have hp104 := of_decide_eq_true hg104
                  refine W_skip ?_
                  refine thenE_n ?_
                  refine W_seq ?_
                  refine W_block ?_
                  refine W_seq ?_
                  refine W_region ?_
                  have hslk : s < k := by omega
                  obtain ⟨hsl2, hg1, hg2, hg3⟩ := pget hp99 hslk
                  have hpv : ps[m][s].toNat < ps[m].length := by omega
                  obtain ⟨t9, ht9⟩ : ∃ t9 : Nat, ps[m][s] = (t9 : Int) := ⟨ps[m][s].toNat, by omega⟩
                  have htk : t9 < k := by omega
                  have hsh := lfS_shp (q := ((edL A.ends).getD m (0, 0, 0, 0))) (p := (ps.getD m [])) hsh0 s
                  obtain ⟨x1, hx1⟩ : ∃ x1, v9 * k + s = x1 := ⟨_, rfl⟩
                  obtain ⟨x2, hx2⟩ : ∃ x2, w9 * k + t9 = x2 := ⟨_, rfl⟩
                  have hm1 : (v9 : Int) * (k : Int) = ((v9 * k : Nat) : Int) := by rw [Int.natCast_mul]
                  have hm2 : (w9 : Int) * (k : Int) = ((w9 * k : Nat) : Int) := by rw [Int.natCast_mul]
                  have hx1e : (v9 : Int) * (k : Int) + (s : Int) = (x1 : Int) := by rw [hm1]; omega
                  have hx2e : (w9 : Int) * (k : Int) + (t9 : Int) = (x2 : Int) := by rw [hm2]; omega
                  have hx1l : x1 < N9 := by rw [← hx1, ← hN9]; exact ltk hq.hv hslk
                  have hx2l : x2 < N9 := by rw [← hx2, ← hN9]; exact ltk hq.hw htk
                  have hv9l := hq.hv
                  have hw9l := hq.hw
                  have hi9l := hq.hi
                  have hj9l := hq.hj
                  have hsx1 : x1 < (lfS k ((edL A.ends).getD m (0, 0, 0, 0)) (ps.getD m []) (lfM A k ps m) s).length := by rw [hsh.1, hN9]; omega
                  have hsx2 : x2 < (lfS k ((edL A.ends).getD m (0, 0, 0, 0)) (ps.getD m []) (lfM A k ps m) s).length := by rw [hsh.1, hN9]; omega
                  have hrr1 := shp_row hsh hslk hv9l hx1 hsx1
                  have hrr2 := shp_row hsh htk hw9l hx2 hsx2
                  refine WL_q rfl (ev_move rfl) ?_
                  refine WL_q rfl (ev_assign rfl) ?_
                  refine WL_nil ?_
                  refine thenE_n ?_
                  refine W_seq ?_
                  refine W_seq ?_
                  refine W_region ?_
                  refine WL_q rfl (ev_loads st58 sz58 rfl (cellsB hB11) rfl) ?_
                  refine WL_m rfl (ev_call rfl (stub_spec ((v9 : Int), (i9 : Int), (w9 : Int), (j9 : Int)) _)) ?_
                  rintro _ w107 ⟨b107, rfl, hb107, hE107⟩
                  have hz107 := hE107.size
                  replace hE := hE.trans hE107
                  replace hRL2 := hRL2.trans hE107
                  replace hRL4 := hRL4.trans hE107
                  replace hA := hA.ext hE107
                  replace hps := hps.ext hE107
                  replace hB3 := hB3.ext hE107
                  replace hB6 := hB6.ext hE107
                  replace hQ36 := hQ36.ext hE107
                  replace hQ86 := hQ86.ext hE107
                  replace hB11 := hB11.ext hE107
                  replace hr95 := hr95.ext hE107
                  replace hB8 := hB8.ext hE107
                  replace hV := hV.ext hE107
                  replace hBi := hBi.ext hE107
                  refine WL_q rfl (ev_move rfl) ?_
                  refine WL_splitv (t := 108) rfl (fun hg107 => ?_) (fun hg107 => ?_)
                  · have hp107 := hb107.1 hg107
                    refine WL_qg rfl rfl hg107 rfl (ev_move rfl) ?_
                    refine WL_qg rfl rfl hg107 rfl (ev_move rfl) ?_
                    refine WL_qg rfl rfl hg107 rfl (ev_move rfl) ?_
                    refine WL_qg rfl rfl hg107 rfl (ev_indexAddr Try.underlying23 sz3 rfl rfl (hr95.isSome (by omega)) (by omega) (by omega)) ?_
                    refine WL_qg rfl rfl hg107 rfl (ev_load one3 rfl (hr95.cell (i := s) (by omega))) ?_
                    rw [ht9]
                    refine WL_qg rfl rfl hg107 rfl (ev_indexAddr Try.underlying23 sz3 rfl rfl (hr95.isSome (by omega)) (by omega) (by omega)) ?_
                    refine WL_qg rfl rfl hg107 rfl (ev_load one3 rfl (hr95.cell (i := t9) (by omega))) ?_
                    refine WL_qg rfl rfl hg107 rfl (ev_move rfl) ?_
                    refine WL_qg rfl rfl hg107 rfl (ev_neq rfl rfl) ?_
                    refine WL_q rfl (ev_pick_t rfl hg107 rfl) ?_
                    refine WL_nil ?_
                    refine thenE_n ?_
                    refine W_cond rfl (fun hg117 => ?_) (fun hg117 => ?_)
                    · have hp117 := of_decide_eq_true hg117
                      refine W_seq ?_
                      refine W_region ?_
                      refine WL_q rfl (ev_buildP0 sn31_3 zr31 ) ?_
                      refine WL_s (ev_stores sz31 rfl rfl rfl (by simp [Value.oneCell']) hB6 (by simp)) ?_
                      rintro _ w20_1 hS20_1
                      have hz20_1 := hS20_1.size
                      replace hE := hE.sto hS20_1 (by omega)
                      replace hA := hA.sto hS20_1 (by omega)
                      replace hps := hps.sto hS20_1 (by omega)
                      replace hB3 := hB3.sto hS20_1 (by omega)
                      replace hQ36 := hQ36.sto hS20_1 (by omega)
                      replace hQ86 := hQ86.sto hS20_1 (by omega)
                      replace hB11 := hB11.sto hS20_1 (by omega)
                      replace hr95 := hr95.sto hS20_1 (by omega)
                      replace hB8 := hB8.sto hS20_1 (by omega)
                      replace hV := hV.sto hS20_1 (by omega)
                      replace hBi := hBi.sto hS20_1 (by omega)
                      replace hB6 : Blk w20_1 _ _ [_, _, _] := hS20_1.blk
                      refine WL_q rfl (ev_assign rfl) ?_
                      refine WL_nil ?_
                      refine thenE_n ?_
                      refine W_ret ?_
                      refine thenE_r ?_
                      refine blockE_r ?_
                      refine thenE_r ?_
                      refine thenE_r ?_
                      refine blockE_r ?_
                      refine blockE_r ?_
                      refine thenE_r ?_
                      refine thenE_r ?_
                      refine blockE_r ?_
                      refine thenE_r ?_
                      refine retc2 rfl rfl st31 sz31 (cellsB hB6) rfl rfl ?_
                      first | (exact ⟨⟨none, 0, none, 0, none, 0⟩, ⟨[], [], []⟩, _, rfl, .no (fun h => hp17 h.a), OwnNet.nil, by decide, hE⟩) | (exact ⟨⟨none, 0, none, 0, none, 0⟩, ⟨[], [], []⟩, _, rfl, .no (fun h => tf hg21 (inR_true.2 (by have h1 := h.k1; have h2 := Nat.le_trans (Nat.le_mul_of_pos_right r.toNat (show 0 < A.ends.length by have := h.a.nodes; omega)) h.kn; omega))), OwnNet.nil, by decide, hE⟩) | (exact ⟨⟨none, 0, none, 0, none, 0⟩, ⟨[], [], []⟩, _, rfl, .no (fun h => absurd (show k * A.ends.length ≤ 40 from h.kn) (by omega)), OwnNet.nil, by decide, hE⟩) | (exact ⟨⟨none, 0, none, 0, none, 0⟩, ⟨[], [], []⟩, _, rfl, .no (fun h => absurd (show ps.length = (edL A.ends).length from h.len) (by omega)), OwnNet.nil, by decide, hE⟩) | (exact ⟨⟨none, 0, none, 0, none, 0⟩, ⟨[], [], []⟩, _, rfl, .no (fun h => hp99 (h.perm m hlps)), OwnNet.nil, by decide, hE⟩) | (exact ⟨⟨none, 0, none, 0, none, 0⟩, ⟨[], [], []⟩, _, rfl, .no (fun h => st_no9 hsl2 ht9 hp117 (h.stub m hlps hlm ((stq_q hq).1 hp107) s (show s < k by omega))), OwnNet.nil, by decide, hE⟩) | (exact hq162.elim (fun ⟨e1, h1, e2, e3⟩ => (by subst e1 e2 e3; exact ⟨_, liftN A k ps, _, rfl, .yes hL9 rfl, hON.up (by omega) (by omega), lift_tot hL9, hE⟩)) (fun ⟨e1, h1, e2, e3⟩ => absurd (lift_ok hL9) h1))
                    · have hp117 := of_decide_eq_false hg117
                      refine W_skip ?_
                      refine thenE_n ?_
                      refine W_seq ?_
                      refine W_drawE [(0, true), (1, true), (2, true), (3, true), (4, true), (5, true), (6, true), (7, true), (8, true), (9, true), (10, true), (11, true), (12, true), (13, true), (14, true), (15, true), (16, true)] mixed (by kernel_rfl) rfl (by kernel_rfl) ?_
                      intro wd21 hEd21 hzd21
                      replace hE := hE.trans hEd21
                      replace hRL2 := hRL2.trans hEd21
                      replace hRL4 := hRL4.trans hEd21
                      replace hA := hA.ext hEd21
                      replace hps := hps.ext hEd21
                      replace hB3 := hB3.ext hEd21
                      replace hB6 := hB6.ext hEd21
                      replace hQ36 := hQ36.ext hEd21
                      replace hQ86 := hQ86.ext hEd21
                      replace hB11 := hB11.ext hEd21
                      replace hr95 := hr95.ext hEd21
                      replace hB8 := hB8.ext hEd21
                      replace hV := hV.ext hEd21
                      replace hBi := hBi.ext hEd21
                      have hDd21 := Ext.refl wd21
                      refine PW_q rfl rfl (fun wq hq => ev_fieldAddr fo58_0 rfl) ?_
                      refine PW_q rfl rfl (fun wq hq => ev_load one3 rfl (hq.cell (hB11.cell rfl))) ?_
                      refine PW_q rfl rfl (fun wq hq => ev_move rfl) ?_
                      refine PW_q rfl rfl (fun wq hq => ev_mul rfl rfl (by omega)) ?_
                      refine PW_q rfl rfl (fun wq hq => ev_move rfl) ?_
                      refine PW_q rfl rfl (fun wq hq => ev_add rfl rfl (by omega)) ?_
                      rw [hx1e]
                      refine PW_q rfl rfl (fun wq hq => ev_fieldAddr fo58_2 rfl) ?_
                      refine PW_q rfl rfl (fun wq hq => ev_load one3 rfl (hq.cell (hB11.cell rfl))) ?_
                      refine PW_q rfl rfl (fun wq hq => ev_move rfl) ?_
                      refine PW_q rfl rfl (fun wq hq => ev_mul rfl rfl (by omega)) ?_
                      refine PW_q rfl rfl (fun wq hq => ev_move rfl) ?_
                      refine PW_q rfl rfl (fun wq hq => ev_move rfl) ?_
                      refine PW_q rfl rfl (fun wq hq => ev_indexAddr Try.underlying23 sz3 rfl rfl (hr95.isSome (by omega)) (by omega) (by omega)) ?_
                      have hc133 := hr95.cell (i := s) (by omega)
                      refine PW_q rfl rfl (fun wq hq => ev_load one3 rfl (hq.cell (hc133))) ?_
                      rw [ht9]
                      refine PW_q rfl rfl (fun wq hq => ev_add rfl rfl (by omega)) ?_
                      rw [hx2e]
                      refine PW_q rfl rfl (fun wq hq => ev_assign rfl) ?_
                      have hrw1 : i9 < ((lfS k ((edL A.ends).getD m (0, 0, 0, 0)) (ps.getD m []) (lfM A k ps m) s)[x1]).length := by rw [hrr1]; exact hi9l
                      have hrw3 : j9 < ((lfS k ((edL A.ends).getD m (0, 0, 0, 0)) (ps.getD m []) (lfM A k ps m) s)[x2]).length := by rw [hrr2]; exact hj9l
                      have hiv3 : x2 < vs.length := by have := hV.len; omega
                      obtain ⟨g3, rest3, hg3a, hg3l, hg3h, hBr3⟩ := hV.row hsx2 hiv3 (y := j9) hrw3
                      have e83 := rowv_at9 hiv3 hsx2
                      rw [hg3a] at e83
                      have hiv1 : x1 < vs.length := by have := hV.len; omega
                      obtain ⟨g1, rest1, hg1a, hg1l, hg1h, hBr1⟩ := hV.row hsx1 hiv1 (y := i9) hrw1
                      have hBk1 := hV.2.1
                      have e81 := rowv_at9 hiv1 hsx1
                      rw [hg1a] at e81
                      refine PW_q rfl rfl (fun wq hq => ev_assign rfl) ?_
                      refine PW_nil ?_
                      refine thenE_n ?_
                      refine W_drawY (X := Unit) (fun x => []) (fun x w' => NV wt3.heap.size wL0.heap.size w' 61 56 b46 vs (((lfS k ((edL A.ends).getD m (0, 0, 0, 0)) (ps.getD m []) (lfM A k ps m) s).set x1 ((lfS k ((edL A.ends).getD m (0, 0, 0, 0)) (ps.getD m []) (lfM A k ps m) s)[x1].set i9 ((x2 : Int), (j9 : Int)))).set x2 ((((lfS k ((edL A.ends).getD m (0, 0, 0, 0)) (ps.getD m []) (lfM A k ps m) s).set x1 ((lfS k ((edL A.ends).getD m (0, 0, 0, 0)) (ps.getD m []) (lfM A k ps m) s)[x1].set i9 ((x2 : Int), (j9 : Int))))[x2]'(by rw [List.length_set, hsh.1, hN9]; omega)).set j9 ((x1 : Int), (i9 : Int)))) ∧ Blk w' b8 31 [.slice (some ⟨b46, 0, none⟩) N9 N9, .slice none 0 0, .slice (some ⟨b52, 0, none⟩) N9 N9] ∧ Blk w' b52 3 ((liftN A k ps).inputs.map VI) ∧ Rg wt3.heap.size wL0.heap.size 0 0 w86 w' ∧ Rg wt3.heap.size wL0.heap.size 0 0 w99 w' ∧ Ext w w') 23 0 0 0 0 wt3.heap.size wL0.heap.size 0 0 (.q 0 (.q 1 (.q 2 (.q 3 (.q 4 (.q 5 (.q 6 (.q 14 (.q 15 (.q 16 (.q 17 (.h 7 (.h 8 (.h 9 (.h 10 (.q 11 (.q 22 (.h 12 (.h 13 (.h 18 (.h 19 (.h 20 (.h 21 (.z 23 (.h 24 (.a 25 .done)))))))))))))))))))))))))) mixed (by kernel_rfl) rfl (by kernel_rfl) ?_ ?_
                      · intro wd22 hEd22 hzd22
                        replace hE := hE.trans hEd22
                        replace hRL2 := hRL2.trans hEd22
                        replace hRL4 := hRL4.trans hEd22
                        replace hA := hA.ext hEd22
                        replace hps := hps.ext hEd22
                        replace hB3 := hB3.ext hEd22
                        replace hB6 := hB6.ext hEd22
                        replace hQ36 := hQ36.ext hEd22
                        replace hQ86 := hQ86.ext hEd22
                        replace hB11 := hB11.ext hEd22
                        replace hr95 := hr95.ext hEd22
                        replace hB8 := hB8.ext hEd22
                        replace hV := hV.ext hEd22
                        replace hBi := hBi.ext hEd22
                        replace hBk1 := hBk1.ext hEd22
                        replace hBr1 := hBr1.ext hEd22
                        have hV1_0 := hV
                        have hBr1_0 := hBr1
                        have hSd22 := (Rg.refl : Rg 0 0 0 0 wd22 wd22)
                        have hUd22 := (Rg.refl : Rg wt3.heap.size wL0.heap.size 0 0 wd22 wd22)
                        refine PY_q rfl rfl (fun wq hq => ev_fieldAddr fo31_0 rfl) ?_
                        refine PY_q rfl rfl (fun wq hq => ev_load one29 rfl ((hB8.rg hq.1 (by omega)).cell rfl)) ?_
                        refine PY_q rfl rfl (fun wq hq => ev_move rfl) ?_
                        refine PY_q rfl rfl (fun wq hq => ev_indexAddr Try.underlying29 sz56 rfl rfl rfl (by omega) (by omega)) ?_
                        refine PY_q rfl rfl (fun wq hq => ev_load one56 rfl (hq.1.cell' (hBk1.cellAt e81 (by simp)) (by omega))) ?_
                        refine PY_q rfl rfl (fun wq hq => ev_fieldAddr fo58_1 rfl) ?_
                        refine PY_q rfl rfl (fun wq hq => ev_load one3 rfl ((hB11.rg hq.1 (by omega)).cell rfl)) ?_
                        refine PY_q rfl rfl (fun wq hq => ev_move rfl) ?_
                        refine PY_q rfl rfl (fun wq hq => ev_fieldAddr fo58_3 rfl) ?_
                        refine PY_q rfl rfl (fun wq hq => ev_load one3 rfl ((hB11.rg hq.1 (by omega)).cell rfl)) ?_
                        refine PY_q rfl rfl (fun wq hq => ev_build2 sn61_2 rfl rfl rfl rfl) ?_
                        refine PY_h rfl rfl (fun wq hq => ev_fieldAddr fo31_0 rfl) ?_
                        refine PY_h rfl rfl (fun wq hq => ev_load one29 rfl ((hB8.rg hq.1 (by omega)).cell rfl)) ?_
                        refine PY_h rfl rfl (fun wq hq => ev_move rfl) ?_
                        refine PY_h rfl rfl (fun wq hq => ev_indexAddr Try.underlying29 sz56 rfl rfl rfl (by omega) (by omega)) ?_
                        refine PY_q rfl rfl (fun wq hq => ev_load one56 rfl (hq.1.cell' (hBk1.cellAt e83 (by simp)) (by omega))) ?_
                        refine PY_q rfl rfl (fun wq hq => ev_indexAddr Try.underlying56 sz61 rfl rfl rfl (by omega) (by omega)) ?_
                        refine PY_h rfl rfl (fun wq hq => ev_fieldAddr fo58_3 rfl) ?_
                        refine PY_h rfl rfl (fun wq hq => ev_load one3 rfl ((hB11.rg hq.1 (by omega)).cell rfl)) ?_
                        refine PY_h rfl rfl (fun wq hq => ev_move rfl) ?_
                        refine PY_h rfl rfl (fun wq hq => ev_fieldAddr fo58_1 rfl) ?_
                        refine PY_h rfl rfl (fun wq hq => ev_load one3 rfl ((hB11.rg hq.1 (by omega)).cell rfl)) ?_
                        refine PY_h rfl rfl (fun wq hq => ev_build2 sn61_2 rfl rfl rfl rfl) ?_
                        refine PY_z ?_
                        refine PB_s wt3.heap.size wL0.heap.size 0 0 wt3.heap.size wL0.heap.size 0 0 rfl (ev_stores sz61 rfl rfl rfl (by simp [Value.oneCell']) hBr1 (by rw [List.length_append, pairCells_length]; show _ + 2 ≤ _; omega)) ?_
                        rintro _ w22_23 hS22_23
                        have hz22_23 := hS22_23.size
                        replace hE := hE.sto hS22_23 (by omega)
                        replace hRL2 := hRL2.sto hS22_23 (by omega)
                        replace hRL4 := hRL4.sto hS22_23 (by omega)
                        replace hUd22 := hUd22.sto hS22_23 (by omega)
                        replace hA := hA.sto hS22_23 (by omega)
                        replace hps := hps.sto hS22_23 (by omega)
                        replace hB3 := hB3.sto hS22_23 (by omega)
                        replace hB6 := hB6.sto hS22_23 (by omega)
                        replace hQ36 := hQ36.sto hS22_23 (by omega)
                        replace hQ86 := hQ86.sto hS22_23 (by omega)
                        replace hB11 := hB11.sto hS22_23 (by omega)
                        replace hr95 := hr95.sto hS22_23 (by omega)
                        replace hB8 := hB8.sto hS22_23 (by omega)
                        replace hBi := hBi.sto hS22_23 (by omega)
                        replace hBr1 := hS22_23.blk
                        have hV1 := hV1_0.set (e := ((x2 : Int), (j9 : Int))) hsx1 hiv1 hrw1 hg1a (by omega) hS22_23 hBr1_0 (by simpa using hBr1)
                        have hsx3 : x2 < ((lfS k ((edL A.ends).getD m (0, 0, 0, 0)) (ps.getD m []) (lfM A k ps m) s).set x1 ((lfS k ((edL A.ends).getD m (0, 0, 0, 0)) (ps.getD m []) (lfM A k ps m) s)[x1].set i9 ((x2 : Int), (j9 : Int)))).length := by rw [List.length_set]; exact hsx2
                        have hrw2 : j9 < (((lfS k ((edL A.ends).getD m (0, 0, 0, 0)) (ps.getD m []) (lfM A k ps m) s).set x1 ((lfS k ((edL A.ends).getD m (0, 0, 0, 0)) (ps.getD m []) (lfM A k ps m) s)[x1].set i9 ((x2 : Int), (j9 : Int))))[x2]).length := by (by_cases e9 : x1 = x2; (subst e9; rw [List.getElem_set_self, List.length_set, hrr2]; exact hj9l); (rw [List.getElem_set_ne e9, hrr2]; exact hj9l))
                        have hiv2 : x2 < vs.length := by have := hV1.len; omega
                        obtain ⟨g2, rest2, hg2a, hg2l, hg2h, hBr2⟩ := hV1.row hsx3 hiv2 (y := j9) hrw2
                        have hgg : g2 = g3 := by rw [hg2a] at hg3a; injection hg3a with e; injection e
                        subst hgg
                        have hBr2_0 := hBr2
                        refine ⟨fun _ _ => trivial, fun _ hx => ⟨hUd22.rg hx (by omega), trivial⟩, ?_⟩
                        have hSd22 := (Rg.refl : Rg wt3.heap.size wL0.heap.size 0 0 w22_23 w22_23)
                        have hUd22 := (Rg.refl : Rg wt3.heap.size wL0.heap.size 0 0 w22_23 w22_23)
                        refine PY_h rfl rfl (fun wq hq => ev_indexAddr Try.underlying56 sz61 rfl rfl rfl (by omega) (by omega)) ?_
                        refine PY_a ?_
                        refine PB_s wt3.heap.size wL0.heap.size 0 0 wt3.heap.size wL0.heap.size 0 0 rfl (ev_stores sz61 rfl rfl rfl (by simp [Value.oneCell']) hBr2 (by rw [List.length_append, pairCells_length]; show _ + 2 ≤ _; omega)) ?_
                        rintro _ w22_25 hS22_25
                        have hz22_25 := hS22_25.size
                        replace hE := hE.sto hS22_25 (by omega)
                        replace hRL2 := hRL2.sto hS22_25 (by omega)
                        replace hRL4 := hRL4.sto hS22_25 (by omega)
                        replace hUd22 := hUd22.sto hS22_25 (by omega)
                        replace hSd22 := hSd22.sto hS22_25 (by omega)
                        replace hA := hA.sto hS22_25 (by omega)
                        replace hps := hps.sto hS22_25 (by omega)
                        replace hB3 := hB3.sto hS22_25 (by omega)
                        replace hB6 := hB6.sto hS22_25 (by omega)
                        replace hQ36 := hQ36.sto hS22_25 (by omega)
                        replace hQ86 := hQ86.sto hS22_25 (by omega)
                        replace hB11 := hB11.sto hS22_25 (by omega)
                        replace hr95 := hr95.sto hS22_25 (by omega)
                        replace hB8 := hB8.sto hS22_25 (by omega)
                        replace hBi := hBi.sto hS22_25 (by omega)
                        replace hBr2 := hS22_25.blk
                        have hV2 := hV1.set (e := ((x1 : Int), (i9 : Int))) hsx3 hiv2 hrw2 hg2a (by omega) hS22_25 hBr2_0 (by simpa using hBr2)
                        refine ⟨fun _ hx => ⟨hSd22.rg hx (by omega), trivial⟩, fun _ hx => ⟨hUd22.rg hx (by omega), trivial⟩, ?_⟩
                        have hSd22 := (Rg.refl : Rg wt3.heap.size wL0.heap.size 0 0 w22_25 w22_25)
                        have hUd22 := (Rg.refl : Rg wt3.heap.size wL0.heap.size 0 0 w22_25 w22_25)
                        exact PY_nil 24 () rfl trivial rfl ⟨hV2, hB8, hBi, hRL2, hRL4, hE⟩
                      rintro _ wt22 ⟨hV2, hB8, hBi, hRL2, hRL4, hE⟩
                      dsimp only [List.cons_append, List.nil_append]
                      refine blockE_n ?_
                      refine thenE_n ?_
                      refine W_region ?_
                      refine WL_q rfl (ev_add rfl rfl (by omega)) ?_
                      refine WL_q rfl (ev_move rfl) ?_
                      refine WL_nil ?_
                      refine thenE_n ?_
                      exact ⟨s + 1, (Subs.c rfl (Subs.c rfl (Subs.c rfl (Subs.c rfl (Subs.c rfl (Subs.c rfl (Subs.c rfl (Subs.c rfl (Subs.c rfl (Subs.c rfl Subs.n)))))))))), (Subs.c (lkI rfl (by omega)) Subs.n), ⟨hRL4, ⟨by omega, hB8, hV2.to (by rw [put2_eq, put2_eq]; exact lfS_step hq (by rw [getD_eq hlps, hg1, ht9]) hx1 hx2), hBi, fun u hu hst => by
  by_cases e : u = s
  · subst e; exact st_yes9 hsl2 ht9 hp117
  · exact hJ2 u (by omega) hst⟩⟩, by first | omega | (dsimp only; omega)⟩
                  · have hp107 := ttN hb107 hg107
                    refine WL_no rfl rfl hg107 rfl ?_
                    refine WL_no rfl rfl hg107 rfl ?_
                    refine WL_no rfl rfl hg107 rfl ?_
                    refine WL_no rfl rfl hg107 rfl ?_
                    refine WL_no rfl rfl hg107 rfl ?_
                    refine WL_no rfl rfl hg107 rfl ?_
                    refine WL_no rfl rfl hg107 rfl ?_
                    refine WL_no rfl rfl hg107 rfl ?_
                    refine WL_no rfl rfl hg107 rfl ?_
                    refine WL_q rfl (ev_pick_f rfl hg107 rfl) ?_
                    refine WL_nil ?_
                    refine thenE_n ?_
                    refine W_cond_f rfl ?_
                    refine W_skip ?_
                    refine thenE_n ?_
                    refine W_seq ?_
                    refine W_drawE [(0, true), (1, true), (2, true), (3, true), (4, true), (5, true), (6, true), (7, true), (8, true), (9, true), (10, true), (11, true), (12, true), (13, true), (14, true), (15, true), (16, true)] mixed (by kernel_rfl) rfl (by kernel_rfl) ?_
                    intro wd21 hEd21 hzd21
                    replace hE := hE.trans hEd21
                    replace hRL2 := hRL2.trans hEd21
                    replace hRL4 := hRL4.trans hEd21
                    replace hA := hA.ext hEd21
                    replace hps := hps.ext hEd21
                    replace hB3 := hB3.ext hEd21
                    replace hB6 := hB6.ext hEd21
                    replace hQ36 := hQ36.ext hEd21
                    replace hQ86 := hQ86.ext hEd21
                    replace hB11 := hB11.ext hEd21
                    replace hr95 := hr95.ext hEd21
                    replace hB8 := hB8.ext hEd21
                    replace hV := hV.ext hEd21
                    replace hBi := hBi.ext hEd21
                    have hDd21 := Ext.refl wd21
                    refine PW_q rfl rfl (fun wq hq => ev_fieldAddr fo58_0 rfl) ?_
                    refine PW_q rfl rfl (fun wq hq => ev_load one3 rfl (hq.cell (hB11.cell rfl))) ?_
                    refine PW_q rfl rfl (fun wq hq => ev_move rfl) ?_
                    refine PW_q rfl rfl (fun wq hq => ev_mul rfl rfl (by omega)) ?_
                    refine PW_q rfl rfl (fun wq hq => ev_move rfl) ?_
                    refine PW_q rfl rfl (fun wq hq => ev_add rfl rfl (by omega)) ?_
                    rw [hx1e]
                    refine PW_q rfl rfl (fun wq hq => ev_fieldAddr fo58_2 rfl) ?_
                    refine PW_q rfl rfl (fun wq hq => ev_load one3 rfl (hq.cell (hB11.cell rfl))) ?_
                    refine PW_q rfl rfl (fun wq hq => ev_move rfl) ?_
                    refine PW_q rfl rfl (fun wq hq => ev_mul rfl rfl (by omega)) ?_
                    refine PW_q rfl rfl (fun wq hq => ev_move rfl) ?_
                    refine PW_q rfl rfl (fun wq hq => ev_move rfl) ?_
                    refine PW_q rfl rfl (fun wq hq => ev_indexAddr Try.underlying23 sz3 rfl rfl (hr95.isSome (by omega)) (by omega) (by omega)) ?_
                    have hc133 := hr95.cell (i := s) (by omega)
                    refine PW_q rfl rfl (fun wq hq => ev_load one3 rfl (hq.cell (hc133))) ?_
                    rw [ht9]
                    refine PW_q rfl rfl (fun wq hq => ev_add rfl rfl (by omega)) ?_
                    rw [hx2e]
                    refine PW_q rfl rfl (fun wq hq => ev_assign rfl) ?_
                    have hrw1 : i9 < ((lfS k ((edL A.ends).getD m (0, 0, 0, 0)) (ps.getD m []) (lfM A k ps m) s)[x1]).length := by rw [hrr1]; exact hi9l
                    have hrw3 : j9 < ((lfS k ((edL A.ends).getD m (0, 0, 0, 0)) (ps.getD m []) (lfM A k ps m) s)[x2]).length := by rw [hrr2]; exact hj9l
                    have hiv3 : x2 < vs.length := by have := hV.len; omega
                    obtain ⟨g3, rest3, hg3a, hg3l, hg3h, hBr3⟩ := hV.row hsx2 hiv3 (y := j9) hrw3
                    have e83 := rowv_at9 hiv3 hsx2
                    rw [hg3a] at e83
                    have hiv1 : x1 < vs.length := by have := hV.len; omega
                    obtain ⟨g1, rest1, hg1a, hg1l, hg1h, hBr1⟩ := hV.row hsx1 hiv1 (y := i9) hrw1
                    have hBk1 := hV.2.1
                    have e81 := rowv_at9 hiv1 hsx1
                    rw [hg1a] at e81
                    refine PW_q rfl rfl (fun wq hq => ev_assign rfl) ?_
                    refine PW_nil ?_
                    refine thenE_n ?_
                    refine W_drawY (X := Unit) (fun x => []) (fun x w' => NV wt3.heap.size wL0.heap.size w' 61 56 b46 vs (((lfS k ((edL A.ends).getD m (0, 0, 0, 0)) (ps.getD m []) (lfM A k ps m) s).set x1 ((lfS k ((edL A.ends).getD m (0, 0, 0, 0)) (ps.getD m []) (lfM A k ps m) s)[x1].set i9 ((x2 : Int), (j9 : Int)))).set x2 ((((lfS k ((edL A.ends).getD m (0, 0, 0, 0)) (ps.getD m []) (lfM A k ps m) s).set x1 ((lfS k ((edL A.ends).getD m (0, 0, 0, 0)) (ps.getD m []) (lfM A k ps m) s)[x1].set i9 ((x2 : Int), (j9 : Int))))[x2]'(by rw [List.length_set, hsh.1, hN9]; omega)).set j9 ((x1 : Int), (i9 : Int)))) ∧ Blk w' b8 31 [.slice (some ⟨b46, 0, none⟩) N9 N9, .slice none 0 0, .slice (some ⟨b52, 0, none⟩) N9 N9] ∧ Blk w' b52 3 ((liftN A k ps).inputs.map VI) ∧ Rg wt3.heap.size wL0.heap.size 0 0 w86 w' ∧ Rg wt3.heap.size wL0.heap.size 0 0 w99 w' ∧ Ext w w') 23 0 0 0 0 wt3.heap.size wL0.heap.size 0 0 (.q 0 (.q 1 (.q 2 (.q 3 (.q 4 (.q 5 (.q 6 (.q 14 (.q 15 (.q 16 (.q 17 (.h 7 (.h 8 (.h 9 (.h 10 (.q 11 (.q 22 (.h 12 (.h 13 (.h 18 (.h 19 (.h 20 (.h 21 (.z 23 (.h 24 (.a 25 .done)))))))))))))))))))))))))) mixed (by kernel_rfl) rfl (by kernel_rfl) ?_ ?_
                    · intro wd22 hEd22 hzd22
                      replace hE := hE.trans hEd22
                      replace hRL2 := hRL2.trans hEd22
                      replace hRL4 := hRL4.trans hEd22
                      replace hA := hA.ext hEd22
                      replace hps := hps.ext hEd22
                      replace hB3 := hB3.ext hEd22
                      replace hB6 := hB6.ext hEd22
                      replace hQ36 := hQ36.ext hEd22
                      replace hQ86 := hQ86.ext hEd22
                      replace hB11 := hB11.ext hEd22
                      replace hr95 := hr95.ext hEd22
                      replace hB8 := hB8.ext hEd22
                      replace hV := hV.ext hEd22
                      replace hBi := hBi.ext hEd22
                      replace hBk1 := hBk1.ext hEd22
                      replace hBr1 := hBr1.ext hEd22
                      have hV1_0 := hV
                      have hBr1_0 := hBr1
                      have hSd22 := (Rg.refl : Rg 0 0 0 0 wd22 wd22)
                      have hUd22 := (Rg.refl : Rg wt3.heap.size wL0.heap.size 0 0 wd22 wd22)
                      refine PY_q rfl rfl (fun wq hq => ev_fieldAddr fo31_0 rfl) ?_
                      refine PY_q rfl rfl (fun wq hq => ev_load one29 rfl ((hB8.rg hq.1 (by omega)).cell rfl)) ?_
                      refine PY_q rfl rfl (fun wq hq => ev_move rfl) ?_
                      refine PY_q rfl rfl (fun wq hq => ev_indexAddr Try.underlying29 sz56 rfl rfl rfl (by omega) (by omega)) ?_
                      refine PY_q rfl rfl (fun wq hq => ev_load one56 rfl (hq.1.cell' (hBk1.cellAt e81 (by simp)) (by omega))) ?_
                      refine PY_q rfl rfl (fun wq hq => ev_fieldAddr fo58_1 rfl) ?_
                      refine PY_q rfl rfl (fun wq hq => ev_load one3 rfl ((hB11.rg hq.1 (by omega)).cell rfl)) ?_
                      refine PY_q rfl rfl (fun wq hq => ev_move rfl) ?_
                      refine PY_q rfl rfl (fun wq hq => ev_fieldAddr fo58_3 rfl) ?_
                      refine PY_q rfl rfl (fun wq hq => ev_load one3 rfl ((hB11.rg hq.1 (by omega)).cell rfl)) ?_
                      refine PY_q rfl rfl (fun wq hq => ev_build2 sn61_2 rfl rfl rfl rfl) ?_
                      refine PY_h rfl rfl (fun wq hq => ev_fieldAddr fo31_0 rfl) ?_
                      refine PY_h rfl rfl (fun wq hq => ev_load one29 rfl ((hB8.rg hq.1 (by omega)).cell rfl)) ?_
                      refine PY_h rfl rfl (fun wq hq => ev_move rfl) ?_
                      refine PY_h rfl rfl (fun wq hq => ev_indexAddr Try.underlying29 sz56 rfl rfl rfl (by omega) (by omega)) ?_
                      refine PY_q rfl rfl (fun wq hq => ev_load one56 rfl (hq.1.cell' (hBk1.cellAt e83 (by simp)) (by omega))) ?_
                      refine PY_q rfl rfl (fun wq hq => ev_indexAddr Try.underlying56 sz61 rfl rfl rfl (by omega) (by omega)) ?_
                      refine PY_h rfl rfl (fun wq hq => ev_fieldAddr fo58_3 rfl) ?_
                      refine PY_h rfl rfl (fun wq hq => ev_load one3 rfl ((hB11.rg hq.1 (by omega)).cell rfl)) ?_
                      refine PY_h rfl rfl (fun wq hq => ev_move rfl) ?_
                      refine PY_h rfl rfl (fun wq hq => ev_fieldAddr fo58_1 rfl) ?_
                      refine PY_h rfl rfl (fun wq hq => ev_load one3 rfl ((hB11.rg hq.1 (by omega)).cell rfl)) ?_
                      refine PY_h rfl rfl (fun wq hq => ev_build2 sn61_2 rfl rfl rfl rfl) ?_
                      refine PY_z ?_
                      refine PB_s wt3.heap.size wL0.heap.size 0 0 wt3.heap.size wL0.heap.size 0 0 rfl (ev_stores sz61 rfl rfl rfl (by simp [Value.oneCell']) hBr1 (by rw [List.length_append, pairCells_length]; show _ + 2 ≤ _; omega)) ?_
                      rintro _ w22_23 hS22_23
                      have hz22_23 := hS22_23.size
                      replace hE := hE.sto hS22_23 (by omega)
                      replace hRL2 := hRL2.sto hS22_23 (by omega)
                      replace hRL4 := hRL4.sto hS22_23 (by omega)
                      replace hUd22 := hUd22.sto hS22_23 (by omega)
                      replace hA := hA.sto hS22_23 (by omega)
                      replace hps := hps.sto hS22_23 (by omega)
                      replace hB3 := hB3.sto hS22_23 (by omega)
                      replace hB6 := hB6.sto hS22_23 (by omega)
                      replace hQ36 := hQ36.sto hS22_23 (by omega)
                      replace hQ86 := hQ86.sto hS22_23 (by omega)
                      replace hB11 := hB11.sto hS22_23 (by omega)
                      replace hr95 := hr95.sto hS22_23 (by omega)
                      replace hB8 := hB8.sto hS22_23 (by omega)
                      replace hBi := hBi.sto hS22_23 (by omega)
                      replace hBr1 := hS22_23.blk
                      have hV1 := hV1_0.set (e := ((x2 : Int), (j9 : Int))) hsx1 hiv1 hrw1 hg1a (by omega) hS22_23 hBr1_0 (by simpa using hBr1)
                      have hsx3 : x2 < ((lfS k ((edL A.ends).getD m (0, 0, 0, 0)) (ps.getD m []) (lfM A k ps m) s).set x1 ((lfS k ((edL A.ends).getD m (0, 0, 0, 0)) (ps.getD m []) (lfM A k ps m) s)[x1].set i9 ((x2 : Int), (j9 : Int)))).length := by rw [List.length_set]; exact hsx2
                      have hrw2 : j9 < (((lfS k ((edL A.ends).getD m (0, 0, 0, 0)) (ps.getD m []) (lfM A k ps m) s).set x1 ((lfS k ((edL A.ends).getD m (0, 0, 0, 0)) (ps.getD m []) (lfM A k ps m) s)[x1].set i9 ((x2 : Int), (j9 : Int))))[x2]).length := by (by_cases e9 : x1 = x2; (subst e9; rw [List.getElem_set_self, List.length_set, hrr2]; exact hj9l); (rw [List.getElem_set_ne e9, hrr2]; exact hj9l))
                      have hiv2 : x2 < vs.length := by have := hV1.len; omega
                      obtain ⟨g2, rest2, hg2a, hg2l, hg2h, hBr2⟩ := hV1.row hsx3 hiv2 (y := j9) hrw2
                      have hgg : g2 = g3 := by rw [hg2a] at hg3a; injection hg3a with e; injection e
                      subst hgg
                      have hBr2_0 := hBr2
                      refine ⟨fun _ _ => trivial, fun _ hx => ⟨hUd22.rg hx (by omega), trivial⟩, ?_⟩
                      have hSd22 := (Rg.refl : Rg wt3.heap.size wL0.heap.size 0 0 w22_23 w22_23)
                      have hUd22 := (Rg.refl : Rg wt3.heap.size wL0.heap.size 0 0 w22_23 w22_23)
                      refine PY_h rfl rfl (fun wq hq => ev_indexAddr Try.underlying56 sz61 rfl rfl rfl (by omega) (by omega)) ?_
                      refine PY_a ?_
                      refine PB_s wt3.heap.size wL0.heap.size 0 0 wt3.heap.size wL0.heap.size 0 0 rfl (ev_stores sz61 rfl rfl rfl (by simp [Value.oneCell']) hBr2 (by rw [List.length_append, pairCells_length]; show _ + 2 ≤ _; omega)) ?_
                      rintro _ w22_25 hS22_25
                      have hz22_25 := hS22_25.size
                      replace hE := hE.sto hS22_25 (by omega)
                      replace hRL2 := hRL2.sto hS22_25 (by omega)
                      replace hRL4 := hRL4.sto hS22_25 (by omega)
                      replace hUd22 := hUd22.sto hS22_25 (by omega)
                      replace hSd22 := hSd22.sto hS22_25 (by omega)
                      replace hA := hA.sto hS22_25 (by omega)
                      replace hps := hps.sto hS22_25 (by omega)
                      replace hB3 := hB3.sto hS22_25 (by omega)
                      replace hB6 := hB6.sto hS22_25 (by omega)
                      replace hQ36 := hQ36.sto hS22_25 (by omega)
                      replace hQ86 := hQ86.sto hS22_25 (by omega)
                      replace hB11 := hB11.sto hS22_25 (by omega)
                      replace hr95 := hr95.sto hS22_25 (by omega)
                      replace hB8 := hB8.sto hS22_25 (by omega)
                      replace hBi := hBi.sto hS22_25 (by omega)
                      replace hBr2 := hS22_25.blk
                      have hV2 := hV1.set (e := ((x1 : Int), (i9 : Int))) hsx3 hiv2 hrw2 hg2a (by omega) hS22_25 hBr2_0 (by simpa using hBr2)
                      refine ⟨fun _ hx => ⟨hSd22.rg hx (by omega), trivial⟩, fun _ hx => ⟨hUd22.rg hx (by omega), trivial⟩, ?_⟩
                      have hSd22 := (Rg.refl : Rg wt3.heap.size wL0.heap.size 0 0 w22_25 w22_25)
                      have hUd22 := (Rg.refl : Rg wt3.heap.size wL0.heap.size 0 0 w22_25 w22_25)
                      exact PY_nil 24 () rfl trivial rfl ⟨hV2, hB8, hBi, hRL2, hRL4, hE⟩
                    rintro _ wt22 ⟨hV2, hB8, hBi, hRL2, hRL4, hE⟩
                    dsimp only [List.cons_append, List.nil_append]
                    refine blockE_n ?_
                    refine thenE_n ?_
                    refine W_region ?_
                    refine WL_q rfl (ev_add rfl rfl (by omega)) ?_
                    refine WL_q rfl (ev_move rfl) ?_
                    refine WL_nil ?_
                    refine thenE_n ?_
                    exact ⟨s + 1, (Subs.c rfl (Subs.c rfl (Subs.c rfl (Subs.c rfl (Subs.c rfl (Subs.c rfl (Subs.c rfl (Subs.c rfl (Subs.c rfl (Subs.c rfl Subs.n)))))))))), (Subs.c (lkI rfl (by omega)) Subs.n), ⟨hRL4, ⟨by omega, hB8, hV2.to (by rw [put2_eq, put2_eq]; exact lfS_step hq (by rw [getD_eq hlps, hg1, ht9]) hx1 hx2), hBi, fun u hu hst => by
  by_cases e : u = s
  · subst e; exact absurd hst hp107
  · exact hJ2 u (by omega) hst⟩⟩, by first | omega | (dsimp only; omega)⟩
                · have hp104 := of_decide_eq_false hg104
                  refine W_exit ?_
                  refine thenE_x ?_
                  refine thenE_x ?_
                  refine blockE_hit ?_
                  refine blockE_n ?_
                  refine thenE_n ?_
                  refine W_region ?_
                  refine WL_q rfl (ev_add rfl rfl (by omega)) ?_
                  refine WL_q rfl (ev_move rfl) ?_
                  refine WL_nil ?_
                  refine thenE_n ?_
                  have hs9 : s = k := by omega
                  rw [hs9] at hV
                  exact ⟨m + 1, (Subs.c rfl (Subs.c rfl (Subs.c rfl (Subs.c rfl (Subs.c rfl (Subs.c rfl Subs.n)))))), (Subs.c (lkI rfl (by omega)) Subs.n), ⟨hRL2, ⟨by omega, hB8, hV, hBi, fun m' hm' h2 => by
  by_cases e : m' = m
  · subst e; exact ⟨hp99, fun h3 hst s9 hs99 => hJ2 s9 (by omega) ((stq_q hq).2 hst)⟩
  · exact hJ m' (by omega) h2⟩⟩, by first | omega | (dsimp only; omega)⟩
            · have hp89 := of_decide_eq_false hg89
              refine W_exit ?_
              refine thenE_x ?_
              refine thenE_x ?_
              refine blockE_hit ?_
              refine thenE_n ?_
              refine W_seq ?_
              refine W_region ?_
              have hm9 : m = (edL A.ends).length := by omega
              subst hm9
              have hL9 : LF A k ps := LF.of hkA (by omega) (by omega) (by omega) hJ
              have hlen9 := (lfM_shp (A := A) (k := k) (perms := ps) (edL A.ends).length).1
              have hON : OwnNet w36.heap.size wL2.heap.size wL2 61 3 ⟨some ⟨b46, 0, none⟩, N9, none, 0, some ⟨b52, 0, none⟩, N9⟩ (liftN A k ps) := hV.net hBi (by rw [hlen9]; exact hN9) (by simp [liftN]; exact hN9) (by omega) (by omega) (by omega) (by omega) hb7 (by omega) (by omega)
              have hNi := hON.is
              refine WL_q rfl (ev_loads st31 sz31 rfl (cellsB hB8) rfl) ?_
              refine WL_m rfl (ev_call rfl (network_len _ _ _ _ _ _ (liftN A k ps) _ (by show (lfM A k ps _).length = N9; rw [hlen9]; exact hN9) rfl (by simp [liftN]; exact hN9) hNi (by omega) (lift_tot hL9))) ?_
              rintro _ w162 ⟨h162, U162, q162, rfl, hq162, hE162⟩
              have hz162 := hE162.size
              replace hE := hE.trans hE162
              replace hA := hA.ext hE162
              replace hps := hps.ext hE162
              replace hB3 := hB3.ext hE162
              replace hB6 := hB6.ext hE162
              replace hQ36 := hQ36.ext hE162
              replace hQ86 := hQ86.ext hE162
              replace hB8 := hB8.ext hE162
              replace hV := hV.ext hE162
              replace hBi := hBi.ext hE162
              replace hNi := hNi.ext hE162
              replace hON := hON.ext hE162
              refine WL_q rfl (ev_extract rfl rfl) ?_
              refine WL_q rfl (ev_extract rfl rfl) ?_
              refine WL_s (ev_stores sz31 rfl rfl rfl (by simp [Value.oneCell']) hB6 (by simp)) ?_
              rintro _ w25_4 hS25_4
              have hz25_4 := hS25_4.size
              replace hE := hE.sto hS25_4 (by omega)
              replace hA := hA.sto hS25_4 (by omega)
              replace hps := hps.sto hS25_4 (by omega)
              replace hB3 := hB3.sto hS25_4 (by omega)
              replace hQ36 := hQ36.sto hS25_4 (by omega)
              replace hQ86 := hQ86.sto hS25_4 (by omega)
              replace hB8 := hB8.sto hS25_4 (by omega)
              replace hV := hV.sto hS25_4 (by omega)
              replace hBi := hBi.sto hS25_4 (by omega)
              replace hNi := hNi.sto hS25_4 (by omega)
              replace hON := hON.sto hS25_4 (by omega)
              replace hB6 : Blk w25_4 _ _ [_, _, _] := hS25_4.blk
              refine WL_q rfl (ev_assign rfl) ?_
              refine WL_nil ?_
              refine thenE_n ?_
              refine W_ret ?_
              refine retc2 rfl rfl st31 sz31 (cellsB hB6) rfl rfl ?_
              first | (exact ⟨⟨none, 0, none, 0, none, 0⟩, ⟨[], [], []⟩, _, rfl, .no (fun h => hp17 h.a), OwnNet.nil, by decide, hE⟩) | (exact ⟨⟨none, 0, none, 0, none, 0⟩, ⟨[], [], []⟩, _, rfl, .no (fun h => tf hg21 (inR_true.2 (by have h1 := h.k1; have h2 := Nat.le_trans (Nat.le_mul_of_pos_right r.toNat (show 0 < A.ends.length by have := h.a.nodes; omega)) h.kn; omega))), OwnNet.nil, by decide, hE⟩) | (exact ⟨⟨none, 0, none, 0, none, 0⟩, ⟨[], [], []⟩, _, rfl, .no (fun h => absurd (show k * A.ends.length ≤ 40 from h.kn) (by omega)), OwnNet.nil, by decide, hE⟩) | (exact ⟨⟨none, 0, none, 0, none, 0⟩, ⟨[], [], []⟩, _, rfl, .no (fun h => absurd (show ps.length = (edL A.ends).length from h.len) (by omega)), OwnNet.nil, by decide, hE⟩) | (exact ⟨⟨none, 0, none, 0, none, 0⟩, ⟨[], [], []⟩, _, rfl, .no (fun h => hp99 (h.perm m hlps)), OwnNet.nil, by decide, hE⟩) | (exact ⟨⟨none, 0, none, 0, none, 0⟩, ⟨[], [], []⟩, _, rfl, .no (fun h => st_no9 hsl2 ht9 hp117 (h.stub m hlps hlm ((stq_q hq).1 hp107) s (show s < k by omega))), OwnNet.nil, by decide, hE⟩) | (exact hq162.elim (fun ⟨e1, h1, e2, e3⟩ => (by subst e1 e2 e3; exact ⟨_, liftN A k ps, _, rfl, .yes hL9 rfl, hON.up (by omega) (by omega), lift_tot hL9, hE⟩)) (fun ⟨e1, h1, e2, e3⟩ => absurd (lift_ok hL9) h1))

end Go.Proofs.Ytladejfcplpnaaa
