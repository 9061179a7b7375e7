/- Contracts of PullPorts, of the program and of the reference; the walk of its law. -/
import Derived.Test.YtjnkkadbfigmpaaDist
import Derived.Test.YtjnkkadbfigmpaaMark2
import Derived.Test.YtjnkkadbfigmpaaRowsF
import Derived.Test.YtjnkkadbfigmpaaCovering
namespace Go.Proofs.Ytjnkkadbfigmpaa
open Go Go.RowKit

theorem markIntSS_arg {lo hi c : Nat} {a : Option Addr} {k : Int} {w : World} {xss : List (List Int)} (hF : FIntss lo hi w a c xss) (hk : 0 ≤ k ∧ k ≤ 562949953421312) (hn : totL xss ≤ 1048576) : Fn Try.prog 28 #[.slice a xss.length c, VI k] w (fun v w' => ∃ r, v = VI r ∧ (k ≤ r ∧ r ≤ k + 2097152 * (xss.length : Int)) ∧ Mk lo hi w w') := markIntSS_w (FIntss.w hF hn) hk (Nat.le_trans (totL_len xss) hn)
/-- A list for each node, an element for each port. -/
def PortsOk (B : Net) (l : List (List Int)) : Prop := (l.length : Int) = B.ends.length ∧ ∀ v, v < l.length → (l.getD v []).length = (B.ends.getD v []).length
def thrL (l : List (List Int)) (m : List Int) : List (List Int) := m.map fun k => l.getD k.toNat []
theorem thrL_len (l : List (List Int)) (m : List Int) : (thrL l m).length = m.length := by simp [thrL]
theorem thrL_at {l : List (List Int)} {m : List Int} {i : Nat} (hi : i < m.length) (h2 : m[i].toNat < l.length) : (thrL l m).take i ++ [l[m[i].toNat]] = (thrL l m).take (i + 1) := by
  have h3 : i < (thrL l m).length := by rw [thrL_len]; exact hi
  rw [← List.take_append_getElem h3]
  congr 1
  simp only [thrL, List.getElem_map]
  rw [getD_eq h2]
theorem IsPM.to {A B : Net} {m : List Int} (h : IsPM A B m) {i : Nat} (hi : i < m.length) : 0 ≤ m[i] ∧ m[i].toNat < B.ends.length := by
  have := allR_true.1 h.rng _ (List.getElem_mem hi); omega
theorem thrL_tot {A B : Net} {l : List (List Int)} {m : List Int} (hA : NOk A) (hB : NOk B) (hm : IsPM A B m) (hp : PortsOk B l) : sumL (thrL l m) ≤ 1048576 ∧ (thrL l m).length ≤ 1048576 ∧ totL (thrL l m) ≤ 1048576 := by
  have h1 := hA.nodes
  have h2 := hm.len
  have h3 : sumL (thrL l m) ≤ (thrL l m).length * 6 := sumL_bd fun x hx => by
    obtain ⟨k, hk, rfl⟩ := List.mem_map.1 hx
    obtain ⟨i, hi, rfl⟩ := List.mem_iff_getElem.1 hk
    have h4 := hm.to hi
    have h5 := hp.1
    have h6 := hp.2 m[i].toNat (by omega)
    rw [h6, getD_eq h4.2]
    have := (hB.rows _ h4.2).1; omega
  have h4 := thrL_len l m
  have h5 := totL_sum (thrL l m)
  omega

set_option maxRecDepth 100000 in
theorem l1Own_own {lo hi : Nat} (a : Option Addr) (c : Nat) (xs : List Int) (w : World) (hx : Ints lo hi w a c xs) (hhi : hi ≤ w.heap.size) (hm : xs.length ≤ 1048576) :
    Fn Try.prog 59 #[.slice a xs.length c] w (fun v w' => ∃ a' c', v = .slice a' xs.length c' ∧ Own w.heap.size w' 3 1 a' xs.length c' (xs.map VI) ∧ Ext w w') := by
  have hE := Ext.refl w
  refine Fn_of Try.func59 rfl rfl (by kernel_rfl) rfl ?_
  refine W_seq ?_
  refine W_region ?_
  refine WL_q rfl (ev_assign rfl) ?_
  refine WL_nil ?_
  refine thenE_n ?_
  refine W_seq ?_
  refine W_region ?_
  refine WL_m rfl (ev_lit0 Try.underlying23 el3) ?_
  rintro _ w3 ⟨rfl, hN3⟩
  have hz3 := hN3.size
  replace hE := hE.trans hN3.ext
  replace hx := hx.ext hN3.ext
  have hB3 := hN3.blk
  have hOz := Own.of_new (n := 0) (sz := 1) hN3 rfl (by decide)
  refine WL_q rfl (ev_move rfl) ?_
  refine WL_m rfl (ev_append Try.underlying23 el3 rfl (by decide) rfl rfl hOz hx.sat (by simp) (by simp [Value.oneCell']) (by omega) (by unfold maxLen; omega) (by omega)) ?_
  rintro _ w5 ⟨a5, c5, rfl, hO5, hK5, hQ5⟩
  have hz5 := hK5.size
  replace hE := hE.app hK5 (fun q hq => (hOz.block q hq).1)
  replace hx := hx.app hK5 (hOz) (by omega)
  replace hOz := hO5
  refine WL_q rfl (ev_assign rfl) ?_
  refine WL_nil ?_
  refine thenE_n ?_
  refine W_ret ?_
  refine ret1 rfl rfl ?_
  exact ⟨a5, c5, by rw [Nat.zero_add], own_zadd hOz, hE⟩

set_option maxRecDepth 100000 in
theorem portsOk_spec {loB hiB : Nat} (nB : NA) (B : Net) {lol hil : Nat} (al : Option Addr) (cl : Nat) (l : List (List Int)) (w : World) (hB : IsNet loB hiB w nB B) (hhiB : hiB ≤ w.heap.size) (hnB : totN B ≤ 1048576) (hl : Intss lol hil w al cl l) (hhil : hil ≤ w.heap.size) (hnl : totL l ≤ 1048576) :
    Fn Try.prog 61 #[netV nB B, .slice al l.length cl] w (fun o9 w' => ∃ b, o9 = VB b ∧ (b = true ↔ PortsOk B l) ∧ Ext w w') := by
  have hqB := totL_len B.ends
  have hmB : totL B.ends + B.ids.length + B.inputs.length ≤ 1048576 := hnB
  have hE := Ext.refl w
  refine Fn_of Try.func61 rfl rfl (by kernel_rfl) rfl ?_
  refine W_seq ?_
  refine W_region ?_
  refine WL_m rfl (ev_box rfl) ?_
  rintro _ w2 ⟨rfl, hN2⟩
  have hz2 := hN2.size
  replace hE := hE.trans hN2.ext
  replace hB := hB.ext hN2.ext
  replace hl := hl.ext hN2.ext
  have hB2 : Blk w2 _ _ [_, _, _] := hN2.blk
  refine WL_q rfl (ev_assign rfl) ?_
  refine WL_nil ?_
  refine thenE_n ?_
  refine W_seq ?_
  refine W_seq ?_
  refine W_region ?_
  refine WL_q rfl (ev_move rfl) ?_
  refine WL_q rfl (ev_len Try.underlying40 rfl) ?_
  refine WL_q rfl (ev_fieldAddr fo31_0 rfl) ?_
  refine WL_q rfl (ev_load one29 rfl (hB2.cell rfl)) ?_
  refine WL_q rfl (ev_len Try.underlying29 rfl) ?_
  refine WL_q rfl (ev_neq rfl rfl) ?_
  refine WL_nil ?_
  refine thenE_n ?_
  refine W_cond rfl (fun hg12 => ?_) (fun hg12 => ?_)
  · have hp12 := of_decide_eq_true hg12
    refine W_seq ?_
    refine W_region ?_
    refine WL_q rfl (ev_assign rfl) ?_
    refine WL_nil ?_
    refine thenE_n ?_
    refine W_ret ?_
    refine thenE_r ?_
    refine ret1 rfl rfl ?_
    first | (exact ⟨_, rfl, ffI fun h => hp12 h.1, hE⟩) | (refine ⟨_, rfl, ffI fun h => ?_, hE⟩; have h9 := h.2 i hlt; rw [getD_eq hlt, getD_eq hltB] at h9; omega) | (exact ⟨_, rfl, ttI ⟨by omega, fun v hv => hJ v (by omega)⟩, hE⟩)
  · have hp12 := of_decide_eq_false hg12
    refine W_skip ?_
    refine thenE_n ?_
    refine W_seq ?_
    refine W_seq ?_
    refine W_region ?_
    refine WL_q rfl (ev_move rfl) ?_
    refine WL_q rfl (ev_len Try.underlying40 rfl) ?_
    refine WL_q rfl (ev_move rfl) ?_
    refine WL_nil ?_
    refine thenE_n ?_
    refine W_block ?_
    refine W_loopC (G := Nat) [(2, _), (13, _), (14, _)] ((Subs.c rfl (Subs.c rfl (Subs.c rfl Subs.n)))) (fun i => [(15, VI (i : Int))]) (fun i w' => Ext w2 w' ∧ i ≤ l.length ∧ ∀ j, j < i → (l.getD j []).length = (B.ends.getD j []).length) (fun i => l.length - i) 0 ((Subs.c (lkI rfl (by omega)) Subs.n)) (⟨Ext.refl _, ⟨Nat.zero_le _, fun j h => by omega⟩⟩) ?_
    rintro i wL0 ⟨hRL0, hi', hJ⟩
    have hzL0 := hRL0.size
    replace hE := hE.trans hRL0
    replace hB := hB.ext hRL0
    replace hl := hl.ext hRL0
    replace hB2 := hB2.ext hRL0
    refine W_seq ?_
    refine W_region ?_
    refine WL_q rfl (ev_lss rfl rfl) ?_
    refine WL_nil ?_
    refine thenE_n ?_
    refine W_seq ?_
    refine W_cond rfl (fun hg16 => ?_) (fun hg16 => ?_)
    · have hp16 := of_decide_eq_true hg16
      refine W_skip ?_
      refine thenE_n ?_
      refine W_seq ?_
      refine W_block ?_
      refine W_seq ?_
      refine W_region ?_
      refine WL_q rfl (ev_move rfl) ?_
      have hlt : i < l.length := by omega
      have hltB : i < B.ends.length := by omega
      have htl9 := totL_le hlt
      have htB9 := totL_le hltB
      have hl18 : i < l.length := by omega
      have ht18 := totL_le hl18
      obtain ⟨a18, c18, hc18, hr18⟩ := hl.row hl18
      refine WL_q rfl (ev_indexAddr Try.underlying40 sz23 rfl rfl (hl.isSome (by omega)) (by omega) (by omega)) ?_
      refine WL_q rfl (ev_load one23 rfl (hc18)) ?_
      refine WL_q rfl (ev_assign rfl) ?_
      refine WL_q rfl (ev_assign rfl) ?_
      refine WL_nil ?_
      refine thenE_n ?_
      refine W_seq ?_
      refine W_region ?_
      refine WL_q rfl (ev_move rfl) ?_
      refine WL_q rfl (ev_len Try.underlying23 rfl) ?_
      refine WL_q rfl (ev_fieldAddr fo31_0 rfl) ?_
      refine WL_q rfl (ev_load one29 rfl (hB2.cell rfl)) ?_
      refine WL_q rfl (ev_move rfl) ?_
      have hl25 : i < B.ends.length := by omega
      have ht25 := totL_le hl25
      obtain ⟨a25, c25, hc25, hr25⟩ := hB.ends.row hl25
      refine WL_q rfl (ev_indexAddr Try.underlying29 sz76 rfl rfl (hB.ends.isSome (by omega)) (by omega) (by omega)) ?_
      refine WL_q rfl (ev_load one76 rfl (hc25)) ?_
      refine WL_q rfl (ev_len Try.underlying76 rfl) ?_
      refine WL_q rfl (ev_neq rfl rfl) ?_
      refine WL_nil ?_
      refine thenE_n ?_
      refine W_cond rfl (fun hg28 => ?_) (fun hg28 => ?_)
      · have hp28 := of_decide_eq_true hg28
        refine W_seq ?_
        refine W_region ?_
        refine WL_q rfl (ev_assign rfl) ?_
        refine WL_nil ?_
        refine thenE_n ?_
        refine W_ret ?_
        refine blockE_r ?_
        refine thenE_r ?_
        refine thenE_r ?_
        refine blockE_r ?_
        refine thenE_r ?_
        refine ret1 rfl rfl ?_
        first | (exact ⟨_, rfl, ffI fun h => hp12 h.1, hE⟩) | (refine ⟨_, rfl, ffI fun h => ?_, hE⟩; have h9 := h.2 i hlt; rw [getD_eq hlt, getD_eq hltB] at h9; omega) | (exact ⟨_, rfl, ttI ⟨by omega, fun v hv => hJ v (by omega)⟩, hE⟩)
      · have hp28 := of_decide_eq_false hg28
        refine W_skip ?_
        refine blockE_n ?_
        refine thenE_n ?_
        refine W_region ?_
        refine WL_q rfl (ev_add rfl rfl (by omega)) ?_
        refine WL_q rfl (ev_move rfl) ?_
        refine WL_nil ?_
        refine thenE_n ?_
        exact ⟨i + 1, (Subs.c rfl (Subs.c rfl (Subs.c rfl Subs.n))), (Subs.c (lkI rfl (by omega)) Subs.n), ⟨hRL0, ⟨by omega, fun j hj => by
  by_cases e : j = i
  · subst e; rw [getD_eq hlt, getD_eq hltB]; omega
  · exact hJ j (by omega)⟩⟩, by first | omega | (dsimp only; omega)⟩
    · have hp16 := of_decide_eq_false hg16
      refine W_exit ?_
      refine thenE_x ?_
      refine thenE_x ?_
      refine blockE_hit ?_
      refine thenE_n ?_
      refine W_seq ?_
      refine W_region ?_
      refine WL_q rfl (ev_assign rfl) ?_
      refine WL_nil ?_
      refine thenE_n ?_
      refine W_ret ?_
      refine ret1 rfl rfl ?_
      first | (exact ⟨_, rfl, ffI fun h => hp12 h.1, hE⟩) | (refine ⟨_, rfl, ffI fun h => ?_, hE⟩; have h9 := h.2 i hlt; rw [getD_eq hlt, getD_eq hltB] at h9; omega) | (exact ⟨_, rfl, ttI ⟨by omega, fun v hv => hJ v (by omega)⟩, hE⟩)

set_option maxHeartbeats 4000000 in
set_option maxRecDepth 100000 in
theorem PullPorts_spec {loA hiA : Nat} (nA : NA) (A : Net) {loB hiB : Nat} (nB : NA) (B : Net) {lom him : Nat} (am : Option Addr) (cm : Nat) (m : List Int) {lol hil : Nat} (al : Option Addr) (cl : Nat) (l : List (List Int)) (w : World) (hA : IsNet loA hiA w nA A) (hhiA : hiA ≤ w.heap.size) (hnA : totN A ≤ 1048576) (hB : IsNet loB hiB w nB B) (hhiB : hiB ≤ w.heap.size) (hnB : totN B ≤ 1048576) (hm : Ints lom him w am cm m) (hhim : him ≤ w.heap.size) (hnm : m.length ≤ 1048576) (hl : Intss lol hil w al cl l) (hhil : hil ≤ w.heap.size) (hnl : totL l ≤ 1048576) :
    Fn Try.prog 26 #[netV nA A, netV nB B, .slice am m.length cm, .slice al l.length cl] w (fun o9 w' => ∃ a' c' ys q, o9 = .tuple #[.slice a' ys.length c', VB q] ∧ RV [] (opt ((NOk A ∧ NOk B ∧ IsPM A B m) ∧ PortsOk B l) (thrL l m)) ys q ∧ RowsH w.heap.size w'.heap.size w' 3 a' c' ys ∧ (sumL ys ≤ 1048576 ∧ ys.length ≤ 1048576 ∧ totL ys ≤ 1048576) ∧ Ext w w') := by
  have hqA := totL_len A.ends
  have hmA : totL A.ends + A.ids.length + A.inputs.length ≤ 1048576 := hnA
  have hqB := totL_len B.ends
  have hmB : totL B.ends + B.ids.length + B.inputs.length ≤ 1048576 := hnB
  have hxl := thrL_len l m
  have hE := Ext.refl w
  refine Fn_of Try.func26 rfl rfl (by kernel_rfl) rfl ?_
  refine W_seq ?_
  refine W_region ?_
  refine WL_m rfl (ev_box rfl) ?_
  rintro _ w4 ⟨rfl, hN4⟩
  have hz4 := hN4.size
  replace hE := hE.trans hN4.ext
  replace hA := hA.ext hN4.ext
  replace hB := hB.ext hN4.ext
  replace hm := hm.ext hN4.ext
  replace hl := hl.ext hN4.ext
  have hB4 : Blk w4 _ _ [_, _, _] := hN4.blk
  refine WL_m rfl (ev_box rfl) ?_
  rintro _ w5 ⟨rfl, hN5⟩
  have hz5 := hN5.size
  replace hE := hE.trans hN5.ext
  replace hA := hA.ext hN5.ext
  replace hB := hB.ext hN5.ext
  replace hm := hm.ext hN5.ext
  replace hl := hl.ext hN5.ext
  replace hB4 := hB4.ext hN5.ext
  have hB5 : Blk w5 _ _ [_, _, _] := hN5.blk
  refine WL_q rfl (ev_assign rfl) ?_
  refine WL_q rfl (ev_assign rfl) ?_
  refine WL_nil ?_
  refine thenE_n ?_
  refine W_seq ?_
  refine W_seq ?_
  refine W_region ?_
  refine WL_q rfl (ev_loads st31 sz31 rfl (cellsB hB4) rfl) ?_
  refine WL_q rfl (ev_loads st31 sz31 rfl (cellsB hB5) rfl) ?_
  refine WL_q rfl (ev_move rfl) ?_
  refine WL_m rfl (ev_call rfl (mapOk_spec _ _ _ _ _ _ _ _ (by assumption) (by assumption) (by assumption) (by omega) (by omega) (by omega) (by omega) (by omega) (by omega))) ?_
  rintro _ w16 ⟨b16, rfl, hb16, hE16⟩
  have hz16 := hE16.size
  replace hE := hE.trans hE16
  replace hA := hA.ext hE16
  replace hB := hB.ext hE16
  replace hm := hm.ext hE16
  replace hl := hl.ext hE16
  replace hB4 := hB4.ext hE16
  replace hB5 := hB5.ext hE16
  refine WL_q rfl (ev_not rfl) ?_
  refine WL_q rfl (ev_move rfl) ?_
  refine WL_splitv (t := 18) rfl (fun hg17 => ?_) (fun hg17 => ?_)
  · have hg16 := not_true hg17
    have hp16 := ttN hb16 hg16
    refine WL_no rfl rfl hg17 rfl ?_
    refine WL_no rfl rfl hg17 rfl ?_
    refine WL_no rfl rfl hg17 rfl ?_
    refine WL_no rfl rfl hg17 rfl ?_
    refine WL_q rfl (ev_pick_t rfl hg17 rfl) ?_
    refine WL_nil ?_
    refine thenE_n ?_
    refine W_cond_t rfl ?_
    refine W_seq ?_
    refine W_region ?_
    refine WL_q rfl (ev_assign rfl) ?_
    refine WL_q rfl (ev_assign rfl) ?_
    refine WL_nil ?_
    refine thenE_n ?_
    refine W_ret ?_
    refine thenE_r ?_
    refine ret2 rfl rfl rfl ?_
    first | (exact ⟨none, 0, [], _, rfl, .no (fun h => hp16 h.1), RowsH.nil, ⟨by simp [sumL], by simp, by simp [totL]⟩, hE⟩) | (exact ⟨none, 0, [], _, rfl, .no (fun h => hp21 h.2), RowsH.nil, ⟨by simp [sumL], by simp, by simp [totL]⟩, hE⟩) | (have hi9 : i = (thrL l m).length := (by omega); subst hi9; rw [List.take_length] at hR; exact ⟨_, _, thrL l m, _, by rw [List.take_length], .yes ⟨hp16, hp21⟩ rfl, hR.h.up (by omega) (Nat.le_refl _), thrL_tot hp16.1 hp16.2.1 hp16.2.2 hp21, hE⟩)
  · have hg16 := not_false hg17
    have hp16 := hb16.1 hg16
    refine WL_qg rfl rfl hg17 rfl (ev_loads st31 sz31 rfl (cellsB hB5) rfl) ?_
    refine WL_qg rfl rfl hg17 rfl (ev_move rfl) ?_
    refine WL_mg rfl rfl hg17 rfl (ev_call rfl (portsOk_spec _ B _ _ l _ hB (by omega) (by omega) hl (by omega) (by omega))) ?_
    rintro _ w21 ⟨b21, rfl, hb21, hE21⟩
    have hz21 := hE21.size
    replace hE := hE.trans hE21
    replace hA := hA.ext hE21
    replace hB := hB.ext hE21
    replace hm := hm.ext hE21
    replace hl := hl.ext hE21
    replace hB4 := hB4.ext hE21
    replace hB5 := hB5.ext hE21
    refine WL_qg rfl rfl hg17 rfl (ev_not rfl) ?_
    refine WL_q rfl (ev_pick_f rfl hg17 rfl) ?_
    refine WL_nil ?_
    refine thenE_n ?_
    refine W_cond rfl (fun hg22 => ?_) (fun hg22 => ?_)
    · have hg21 := not_true hg22
      have hp21 := ttN hb21 hg21
      refine W_seq ?_
      refine W_region ?_
      refine WL_q rfl (ev_assign rfl) ?_
      refine WL_q rfl (ev_assign rfl) ?_
      refine WL_nil ?_
      refine thenE_n ?_
      refine W_ret ?_
      refine thenE_r ?_
      refine ret2 rfl rfl rfl ?_
      first | (exact ⟨none, 0, [], _, rfl, .no (fun h => hp16 h.1), RowsH.nil, ⟨by simp [sumL], by simp, by simp [totL]⟩, hE⟩) | (exact ⟨none, 0, [], _, rfl, .no (fun h => hp21 h.2), RowsH.nil, ⟨by simp [sumL], by simp, by simp [totL]⟩, hE⟩) | (have hi9 : i = (thrL l m).length := (by omega); subst hi9; rw [List.take_length] at hR; exact ⟨_, _, thrL l m, _, by rw [List.take_length], .yes ⟨hp16, hp21⟩ rfl, hR.h.up (by omega) (Nat.le_refl _), thrL_tot hp16.1 hp16.2.1 hp16.2.2 hp21, hE⟩)
    · have hg21 := not_false hg22
      have hp21 := hb21.1 hg21
      refine W_skip ?_
      refine thenE_n ?_
      refine W_seq ?_
      refine W_region ?_
      refine WL_q rfl (ev_assign rfl) ?_
      refine WL_nil ?_
      refine thenE_n ?_
      refine W_seq ?_
      refine W_seq ?_
      refine W_region ?_
      refine WL_q rfl (ev_move rfl) ?_
      refine WL_q rfl (ev_len Try.underlying23 rfl) ?_
      refine WL_q rfl (ev_move rfl) ?_
      refine WL_nil ?_
      refine thenE_n ?_
      refine W_block ?_
      refine W_loopC (G := Nat × Option Addr × Nat) [(3, _), (24, _), (25, _)] ((Subs.c rfl (Subs.c rfl (Subs.c rfl Subs.n)))) (fun ⟨i, a, c⟩ => [(10, .slice a ((thrL l m).take i).length c), (26, VI (i : Int))]) (fun ⟨i, a, c⟩ w' => Lo (w21.heap.size) w21 w' ∧ i ≤ m.length ∧ RowsF w21.heap.size w'.heap.size w' 3 23 a c ((thrL l m).take i)) (fun g => m.length - g.1) (0, none, 0) ((Subs.c rfl (Subs.c (lkI rfl (by omega)) Subs.n))) (⟨Lo.refl (by omega), ⟨Nat.zero_le _, RowsF.nil⟩⟩) ?_
      rintro ⟨i, a, c⟩ wL0 ⟨hRL0, hi', hR⟩
      have hzL0 := hRL0.size
      replace hA := hA.lo hRL0 (by omega)
      replace hB := hB.lo hRL0 (by omega)
      replace hm := hm.lo hRL0 (by omega)
      replace hl := hl.lo hRL0 (by omega)
      replace hB4 := hB4.lo hRL0 (by omega)
      replace hB5 := hB5.lo hRL0 (by omega)
      replace hE := hE.lo hRL0 (by omega)
      have htk : ((thrL l m).take i).length = i := by rw [List.length_take]; omega
      refine W_seq ?_
      refine W_region ?_
      refine WL_q rfl (ev_lss rfl rfl) ?_
      refine WL_nil ?_
      refine thenE_n ?_
      refine W_seq ?_
      refine W_cond rfl (fun hg27 => ?_) (fun hg27 => ?_)
      · have hp27 := of_decide_eq_true hg27
        refine W_skip ?_
        refine thenE_n ?_
        refine W_seq ?_
        refine W_block ?_
        refine W_seq ?_
        refine W_region ?_
        have hlm : i < m.length := by omega
        obtain ⟨hmi1, hmi2q⟩ := hp16.2.2.to hlm
        have hmi2 : m[i].toNat < l.length := by have := hp21.1; omega
        have htl9 := totL_le hmi2
        refine WL_q rfl (ev_indexAddr Try.underlying23 sz3 rfl rfl (hm.isSome (by omega)) (by omega) (by omega)) ?_
        refine WL_q rfl (ev_load one3 rfl (hm.cell (i := i) (by omega))) ?_
        refine WL_q rfl (ev_assign rfl) ?_
        refine WL_nil ?_
        refine thenE_n ?_
        refine W_region ?_
        refine WL_q rfl (ev_move rfl) ?_
        refine WL_q rfl (ev_move rfl) ?_
        refine WL_q rfl (ev_move rfl) ?_
        have hl33 : m[i].toNat < l.length := by omega
        have ht33 := totL_le hl33
        obtain ⟨a33, c33, hc33, hr33⟩ := hl.row hl33
        refine WL_q rfl (ev_indexAddr Try.underlying40 sz23 rfl rfl (hl.isSome (by omega)) (by omega) (by omega)) ?_
        refine WL_q rfl (ev_load one23 rfl (hc33)) ?_
        refine WL_m rfl (ev_call rfl (Clone_int _ _ l[m[i].toNat] _ hr33 (by omega) (by omega))) ?_
        rintro _ w35 ⟨a35, c35, rfl, hO35, hE35⟩
        have hz35 := hE35.size
        replace hE := hE.trans hE35
        replace hRL0 := hRL0.trans hE35
        replace hA := hA.ext hE35
        replace hB := hB.ext hE35
        replace hm := hm.ext hE35
        replace hl := hl.ext hE35
        replace hB4 := hB4.ext hE35
        replace hB5 := hB5.ext hE35
        replace hR := hR.ext hE35
        replace hr33 := hr33.ext hE35
        refine WL_m rfl (ev_lit1 Try.underlying40 el23 (by decide) (by decide) rfl rfl) ?_
        rintro _ w36 ⟨rfl, hN36⟩
        have hz36 := hN36.size
        replace hE := hE.trans hN36.ext
        replace hRL0 := hRL0.trans hN36.ext
        replace hA := hA.ext hN36.ext
        replace hB := hB.ext hN36.ext
        replace hm := hm.ext hN36.ext
        replace hl := hl.ext hN36.ext
        replace hB4 := hB4.ext hN36.ext
        replace hB5 := hB5.ext hN36.ext
        replace hR := hR.ext hN36.ext
        replace hr33 := hr33.ext hN36.ext
        replace hO35 := hO35.ext hN36.ext
        have hB36 := hN36.blk
        obtain ⟨vs37, hA37⟩ := hR
        have hP37 := hA37.out
        refine WL_m rfl (ev_append Try.underlying40 el23 rfl (by decide) rfl rfl hP37 (SAt.of_blk (cs := [_]) (ds := []) hB36) rfl (by simp [Value.oneCell']) (by omega) (by unfold maxLen; omega) (by omega)) ?_
        rintro _ w37 ⟨a37, c37, rfl, hO37, hK37, hQ37⟩
        have hz37 := hK37.size
        replace hE := hE.app hK37 (fun q hq => by have h1 := (hP37.block q hq).1; have h2 := hA37.otop q hq; omega)
        replace hRL0 := hRL0.app hK37 (fun q hq => by have h1 := (hP37.block q hq).1; have h2 := hA37.otop q hq; omega)
        replace hA := hA.app hK37 (hP37) (by omega)
        replace hB := hB.app hK37 (hP37) (by omega)
        replace hm := hm.app hK37 (hP37) (by omega)
        replace hl := hl.app hK37 (hP37) (by omega)
        replace hB4 := hB4.app hK37 (hP37) (by omega)
        replace hB5 := hB5.app hK37 (hP37) (by omega)
        replace hr33 := hr33.app hK37 (hP37) (by omega)
        have hP37 := hO37
        have hR := rowsf_snoc hA37 hO35 (by omega) (by omega) hK37 hP37 rfl hQ37 (by omega)
        refine WL_q rfl (ev_assign rfl) ?_
        refine WL_nil ?_
        refine blockE_n ?_
        refine thenE_n ?_
        refine W_region ?_
        refine WL_q rfl (ev_add rfl rfl (by omega)) ?_
        refine WL_q rfl (ev_move rfl) ?_
        refine WL_nil ?_
        refine thenE_n ?_
        have hne := thrL_at (l := l) hlm hmi2
        exact ⟨(i + 1, a37, c37), (Subs.c rfl (Subs.c rfl (Subs.c rfl Subs.n))), (Subs.c (lkS rfl (by rw [← hne]; simp)) (Subs.c (lkI rfl (by omega)) Subs.n)), ⟨hRL0, ⟨by omega, hR.to hne⟩⟩, by first | omega | (dsimp only; omega)⟩
      · have hp27 := of_decide_eq_false hg27
        refine W_exit ?_
        refine thenE_x ?_
        refine thenE_x ?_
        refine blockE_hit ?_
        refine thenE_n ?_
        refine W_seq ?_
        refine W_region ?_
        refine WL_q rfl (ev_move rfl) ?_
        refine WL_q rfl (ev_assign rfl) ?_
        refine WL_q rfl (ev_assign rfl) ?_
        refine WL_nil ?_
        refine thenE_n ?_
        refine W_ret ?_
        refine ret2 rfl rfl rfl ?_
        first | (exact ⟨none, 0, [], _, rfl, .no (fun h => hp16 h.1), RowsH.nil, ⟨by simp [sumL], by simp, by simp [totL]⟩, hE⟩) | (exact ⟨none, 0, [], _, rfl, .no (fun h => hp21 h.2), RowsH.nil, ⟨by simp [sumL], by simp, by simp [totL]⟩, hE⟩) | (have hi9 : i = (thrL l m).length := (by omega); subst hi9; rw [List.take_length] at hR; exact ⟨_, _, thrL l m, _, by rw [List.take_length], .yes ⟨hp16, hp21⟩ rfl, hR.h.up (by omega) (Nat.le_refl _), thrL_tot hp16.1 hp16.2.1 hp16.2.2 hp21, hE⟩)

set_option maxHeartbeats 4000000 in
set_option maxRecDepth 100000 in
theorem sPullPorts_spec {loA hiA : Nat} (nA : NA) (A : Net) {loB hiB : Nat} (nB : NA) (B : Net) {lom him : Nat} (am : Option Addr) (cm : Nat) (m : List Int) {lol hil : Nat} (al : Option Addr) (cl : Nat) (l : List (List Int)) (w : World) (hA : IsNet loA hiA w nA A) (hhiA : hiA ≤ w.heap.size) (hnA : totN A ≤ 1048576) (hB : IsNet loB hiB w nB B) (hhiB : hiB ≤ w.heap.size) (hnB : totN B ≤ 1048576) (hm : Ints lom him w am cm m) (hhim : him ≤ w.heap.size) (hnm : m.length ≤ 1048576) (hl : Intss lol hil w al cl l) (hhil : hil ≤ w.heap.size) (hnl : totL l ≤ 1048576) :
    Fn Try.prog 23 #[netV nA A, netV nB B, .slice am m.length cm, .slice al l.length cl] w (fun o9 w' => ∃ a' c' ys q, o9 = .tuple #[.slice a' ys.length c', VB q] ∧ RV [] (opt ((NOk A ∧ NOk B ∧ IsPM A B m) ∧ PortsOk B l) (thrL l m)) ys q ∧ Intss 0 w'.heap.size w' a' c' ys ∧ (ys.length ≤ 1048576 ∧ totL ys ≤ 1048576) ∧ Ext w w') := by
  have hqA := totL_len A.ends
  have hmA : totL A.ends + A.ids.length + A.inputs.length ≤ 1048576 := hnA
  have hqB := totL_len B.ends
  have hmB : totL B.ends + B.ids.length + B.inputs.length ≤ 1048576 := hnB
  have hxl := thrL_len l m
  have hE := Ext.refl w
  refine Fn_of Try.func23 rfl rfl (by kernel_rfl) rfl ?_
  refine W_seq ?_
  refine W_region ?_
  refine WL_m rfl (ev_box rfl) ?_
  rintro _ w4 ⟨rfl, hN4⟩
  have hz4 := hN4.size
  replace hE := hE.trans hN4.ext
  replace hA := hA.ext hN4.ext
  replace hB := hB.ext hN4.ext
  replace hm := hm.ext hN4.ext
  replace hl := hl.ext hN4.ext
  have hB4 : Blk w4 _ _ [_, _, _] := hN4.blk
  refine WL_m rfl (ev_box rfl) ?_
  rintro _ w5 ⟨rfl, hN5⟩
  have hz5 := hN5.size
  replace hE := hE.trans hN5.ext
  replace hA := hA.ext hN5.ext
  replace hB := hB.ext hN5.ext
  replace hm := hm.ext hN5.ext
  replace hl := hl.ext hN5.ext
  replace hB4 := hB4.ext hN5.ext
  have hB5 : Blk w5 _ _ [_, _, _] := hN5.blk
  refine WL_q rfl (ev_assign rfl) ?_
  refine WL_q rfl (ev_assign rfl) ?_
  refine WL_nil ?_
  refine thenE_n ?_
  refine W_seq ?_
  refine W_seq ?_
  refine W_region ?_
  refine WL_q rfl (ev_loads st31 sz31 rfl (cellsB hB4) rfl) ?_
  refine WL_q rfl (ev_loads st31 sz31 rfl (cellsB hB5) rfl) ?_
  refine WL_q rfl (ev_move rfl) ?_
  refine WL_m rfl (ev_call rfl (coAsked_spec _ _ _ _ _ _ _ _ (by assumption) (by assumption) (by assumption) (by omega) (by omega) (by omega) (by omega) (by omega) (by omega))) ?_
  rintro _ w18 ⟨b18, rfl, hb18, hE18⟩
  have hz18 := hE18.size
  replace hE := hE.trans hE18
  replace hA := hA.ext hE18
  replace hB := hB.ext hE18
  replace hm := hm.ext hE18
  replace hl := hl.ext hE18
  replace hB4 := hB4.ext hE18
  replace hB5 := hB5.ext hE18
  refine WL_q rfl (ev_not rfl) ?_
  refine WL_q rfl (ev_move rfl) ?_
  refine WL_splitv (t := 20) rfl (fun hg19 => ?_) (fun hg19 => ?_)
  · have hg18 := not_true hg19
    have hp18 := ttN hb18 hg18
    refine WL_no rfl rfl hg19 rfl ?_
    refine WL_no rfl rfl hg19 rfl ?_
    refine WL_no rfl rfl hg19 rfl ?_
    refine WL_no rfl rfl hg19 rfl ?_
    refine WL_no rfl rfl hg19 rfl ?_
    refine WL_no rfl rfl hg19 rfl ?_
    refine WL_q rfl (ev_pick_t rfl hg19 rfl) ?_
    refine WL_nil ?_
    refine thenE_n ?_
    refine W_cond_t rfl ?_
    refine W_seq ?_
    refine W_region ?_
    refine WL_q rfl (ev_assign rfl) ?_
    refine WL_q rfl (ev_assign rfl) ?_
    refine WL_nil ?_
    refine thenE_n ?_
    refine W_ret ?_
    refine thenE_r ?_
    refine ret2 rfl rfl rfl ?_
    first | (exact ⟨none, 0, [], _, rfl, .no (fun h => hp18 h.1), Nest.nil, ⟨by simp, by simp [totL]⟩, hE⟩) | (exact ⟨none, 0, [], _, rfl, .no (fun h => hp26 h.2.1), Nest.nil, ⟨by simp, by simp [totL]⟩, hE⟩) | (refine ⟨none, 0, [], _, rfl, .no (fun h => ?_), Nest.nil, ⟨by simp, by simp [totL]⟩, hE⟩; have h9 := h.2.2 i hlt; rw [getD_eq hlt, getD_eq hltB] at h9; omega) | (have hi9 : i = (thrL l m).length := (by omega); subst hi9; rw [List.take_length] at hR; exact ⟨_, _, thrL l m, _, by rw [List.take_length], .yes ⟨hp18, hpo⟩ rfl, hR.is.mono (Nat.zero_le _) (Nat.le_refl _), (thrL_tot hp18.1 hp18.2.1 hp18.2.2 hpo).2, hE⟩)
  · have hg18 := not_false hg19
    have hp18 := hb18.1 hg18
    refine WL_qg rfl rfl hg19 rfl (ev_move rfl) ?_
    refine WL_qg rfl rfl hg19 rfl (ev_len Try.underlying40 rfl) ?_
    refine WL_qg rfl rfl hg19 rfl (ev_fieldAddr fo31_0 rfl) ?_
    refine WL_qg rfl rfl hg19 rfl (ev_load one29 rfl (hB5.cell rfl)) ?_
    refine WL_qg rfl rfl hg19 rfl (ev_len Try.underlying29 rfl) ?_
    refine WL_qg rfl rfl hg19 rfl (ev_neq rfl rfl) ?_
    refine WL_q rfl (ev_pick_f rfl hg19 rfl) ?_
    refine WL_nil ?_
    refine thenE_n ?_
    refine W_cond rfl (fun hg26 => ?_) (fun hg26 => ?_)
    · have hp26 := of_decide_eq_true hg26
      refine W_seq ?_
      refine W_region ?_
      refine WL_q rfl (ev_assign rfl) ?_
      refine WL_q rfl (ev_assign rfl) ?_
      refine WL_nil ?_
      refine thenE_n ?_
      refine W_ret ?_
      refine thenE_r ?_
      refine ret2 rfl rfl rfl ?_
      first | (exact ⟨none, 0, [], _, rfl, .no (fun h => hp18 h.1), Nest.nil, ⟨by simp, by simp [totL]⟩, hE⟩) | (exact ⟨none, 0, [], _, rfl, .no (fun h => hp26 h.2.1), Nest.nil, ⟨by simp, by simp [totL]⟩, hE⟩) | (refine ⟨none, 0, [], _, rfl, .no (fun h => ?_), Nest.nil, ⟨by simp, by simp [totL]⟩, hE⟩; have h9 := h.2.2 i hlt; rw [getD_eq hlt, getD_eq hltB] at h9; omega) | (have hi9 : i = (thrL l m).length := (by omega); subst hi9; rw [List.take_length] at hR; exact ⟨_, _, thrL l m, _, by rw [List.take_length], .yes ⟨hp18, hpo⟩ rfl, hR.is.mono (Nat.zero_le _) (Nat.le_refl _), (thrL_tot hp18.1 hp18.2.1 hp18.2.2 hpo).2, hE⟩)
    · have hp26 := of_decide_eq_false hg26
      refine W_skip ?_
      refine thenE_n ?_
      refine W_seq ?_
      refine W_seq ?_
      refine W_region ?_
      refine WL_q rfl (ev_move rfl) ?_
      refine WL_q rfl (ev_len Try.underlying40 rfl) ?_
      refine WL_q rfl (ev_move rfl) ?_
      refine WL_nil ?_
      refine thenE_n ?_
      refine W_block ?_
      refine W_loopC (G := Nat) [(2, _), (3, _), (5, _), (28, _), (29, _)] ((Subs.c rfl (Subs.c rfl (Subs.c rfl (Subs.c rfl (Subs.c rfl Subs.n)))))) (fun i => [(30, VI (i : Int))]) (fun i w' => Ext w18 w' ∧ i ≤ l.length ∧ ∀ j, j < i → (l.getD j []).length = (B.ends.getD j []).length) (fun i => l.length - i) 0 ((Subs.c (lkI rfl (by omega)) Subs.n)) (⟨Ext.refl _, ⟨Nat.zero_le _, fun j h => by omega⟩⟩) ?_
      rintro i wL0 ⟨hRL0, hi', hJ⟩
      have hzL0 := hRL0.size
      replace hE := hE.trans hRL0
      replace hA := hA.ext hRL0
      replace hB := hB.ext hRL0
      replace hm := hm.ext hRL0
      replace hl := hl.ext hRL0
      replace hB4 := hB4.ext hRL0
      replace hB5 := hB5.ext hRL0
      refine W_seq ?_
      refine W_region ?_
      refine WL_q rfl (ev_lss rfl rfl) ?_
      refine WL_nil ?_
      refine thenE_n ?_
      refine W_seq ?_
      refine W_cond rfl (fun hg31 => ?_) (fun hg31 => ?_)
      · have hp31 := of_decide_eq_true hg31
        refine W_skip ?_
        refine thenE_n ?_
        refine W_seq ?_
        refine W_block ?_
        refine W_seq ?_
        refine W_region ?_
        refine WL_q rfl (ev_move rfl) ?_
        have hlt : i < l.length := by omega
        have hltB : i < B.ends.length := by omega
        have htl9 := totL_le hlt
        have htB9 := totL_le hltB
        have hl33 : i < l.length := by omega
        have ht33 := totL_le hl33
        obtain ⟨a33, c33, hc33, hr33⟩ := hl.row hl33
        refine WL_q rfl (ev_indexAddr Try.underlying40 sz23 rfl rfl (hl.isSome (by omega)) (by omega) (by omega)) ?_
        refine WL_q rfl (ev_load one23 rfl (hc33)) ?_
        refine WL_q rfl (ev_assign rfl) ?_
        refine WL_q rfl (ev_assign rfl) ?_
        refine WL_nil ?_
        refine thenE_n ?_
        refine W_seq ?_
        refine W_region ?_
        refine WL_q rfl (ev_move rfl) ?_
        refine WL_q rfl (ev_len Try.underlying23 rfl) ?_
        refine WL_q rfl (ev_fieldAddr fo31_0 rfl) ?_
        refine WL_q rfl (ev_load one29 rfl (hB5.cell rfl)) ?_
        refine WL_q rfl (ev_move rfl) ?_
        have hl40 : i < B.ends.length := by omega
        have ht40 := totL_le hl40
        obtain ⟨a40, c40, hc40, hr40⟩ := hB.ends.row hl40
        refine WL_q rfl (ev_indexAddr Try.underlying29 sz76 rfl rfl (hB.ends.isSome (by omega)) (by omega) (by omega)) ?_
        refine WL_q rfl (ev_load one76 rfl (hc40)) ?_
        refine WL_q rfl (ev_len Try.underlying76 rfl) ?_
        refine WL_q rfl (ev_neq rfl rfl) ?_
        refine WL_nil ?_
        refine thenE_n ?_
        refine W_cond rfl (fun hg43 => ?_) (fun hg43 => ?_)
        · have hp43 := of_decide_eq_true hg43
          refine W_seq ?_
          refine W_region ?_
          refine WL_q rfl (ev_assign rfl) ?_
          refine WL_q rfl (ev_assign rfl) ?_
          refine WL_nil ?_
          refine thenE_n ?_
          refine W_ret ?_
          refine blockE_r ?_
          refine thenE_r ?_
          refine thenE_r ?_
          refine blockE_r ?_
          refine thenE_r ?_
          refine ret2 rfl rfl rfl ?_
          first | (exact ⟨none, 0, [], _, rfl, .no (fun h => hp18 h.1), Nest.nil, ⟨by simp, by simp [totL]⟩, hE⟩) | (exact ⟨none, 0, [], _, rfl, .no (fun h => hp26 h.2.1), Nest.nil, ⟨by simp, by simp [totL]⟩, hE⟩) | (refine ⟨none, 0, [], _, rfl, .no (fun h => ?_), Nest.nil, ⟨by simp, by simp [totL]⟩, hE⟩; have h9 := h.2.2 i hlt; rw [getD_eq hlt, getD_eq hltB] at h9; omega) | (have hi9 : i = (thrL l m).length := (by omega); subst hi9; rw [List.take_length] at hR; exact ⟨_, _, thrL l m, _, by rw [List.take_length], .yes ⟨hp18, hpo⟩ rfl, hR.is.mono (Nat.zero_le _) (Nat.le_refl _), (thrL_tot hp18.1 hp18.2.1 hp18.2.2 hpo).2, hE⟩)
        · have hp43 := of_decide_eq_false hg43
          refine W_skip ?_
          refine blockE_n ?_
          refine thenE_n ?_
          refine W_region ?_
          refine WL_q rfl (ev_add rfl rfl (by omega)) ?_
          refine WL_q rfl (ev_move rfl) ?_
          refine WL_nil ?_
          refine thenE_n ?_
          exact ⟨i + 1, (Subs.c rfl (Subs.c rfl (Subs.c rfl (Subs.c rfl (Subs.c rfl Subs.n))))), (Subs.c (lkI rfl (by omega)) Subs.n), ⟨hRL0, ⟨by omega, fun j hj => by
  by_cases e : j = i
  · subst e; rw [getD_eq hlt, getD_eq hltB]; omega
  · exact hJ j (by omega)⟩⟩, by first | omega | (dsimp only; omega)⟩
      · have hp31 := of_decide_eq_false hg31
        refine W_exit ?_
        refine thenE_x ?_
        refine thenE_x ?_
        refine blockE_hit ?_
        refine thenE_n ?_
        refine W_seq ?_
        refine W_region ?_
        have hpo : PortsOk B l := ⟨by omega, fun v hv => hJ v (by omega)⟩
        refine WL_q rfl (ev_assign rfl) ?_
        refine WL_nil ?_
        refine thenE_n ?_
        refine W_seq ?_
        refine W_seq ?_
        refine W_region ?_
        refine WL_q rfl (ev_move rfl) ?_
        refine WL_q rfl (ev_len Try.underlying23 rfl) ?_
        refine WL_q rfl (ev_move rfl) ?_
        refine WL_nil ?_
        refine thenE_n ?_
        refine W_block ?_
        refine W_loopC (G := Nat × Option Addr × Nat) [(3, _), (45, _), (46, _)] ((Subs.c rfl (Subs.c rfl (Subs.c rfl Subs.n)))) (fun ⟨i, a, c⟩ => [(12, .slice a ((thrL l m).take i).length c), (47, VI (i : Int))]) (fun ⟨i, a, c⟩ w' => Lo (w18.heap.size) wL0 w' ∧ i ≤ m.length ∧ RowsF w18.heap.size w'.heap.size w' 3 23 a c ((thrL l m).take i)) (fun g => m.length - g.1) (0, none, 0) ((Subs.c rfl (Subs.c (lkI rfl (by omega)) Subs.n))) (⟨Lo.refl (by omega), ⟨Nat.zero_le _, RowsF.nil⟩⟩) ?_
        rintro ⟨i, a, c⟩ wL2 ⟨hRL2, hi', hR⟩
        have hzL2 := hRL2.size
        replace hA := hA.lo hRL2 (by omega)
        replace hB := hB.lo hRL2 (by omega)
        replace hm := hm.lo hRL2 (by omega)
        replace hl := hl.lo hRL2 (by omega)
        replace hB4 := hB4.lo hRL2 (by omega)
        replace hB5 := hB5.lo hRL2 (by omega)
        replace hE := hE.lo hRL2 (by omega)
        have htk : ((thrL l m).take i).length = i := by rw [List.length_take]; omega
        refine W_seq ?_
        refine W_region ?_
        refine WL_q rfl (ev_lss rfl rfl) ?_
        refine WL_nil ?_
        refine thenE_n ?_
        refine W_seq ?_
        refine W_cond rfl (fun hg48 => ?_) (fun hg48 => ?_)
        · have hp48 := of_decide_eq_true hg48
          refine W_skip ?_
          refine thenE_n ?_
          refine W_seq ?_
          refine W_block ?_
          refine W_seq ?_
          refine W_region ?_
          have hlm : i < m.length := by omega
          obtain ⟨hmi1, hmi2q⟩ := hp18.2.2.to hlm
          have hmi2 : m[i].toNat < l.length := by have := hpo.1; omega
          have htl9 := totL_le hmi2
          refine WL_q rfl (ev_indexAddr Try.underlying23 sz3 rfl rfl (hm.isSome (by omega)) (by omega) (by omega)) ?_
          refine WL_q rfl (ev_load one3 rfl (hm.cell (i := i) (by omega))) ?_
          refine WL_q rfl (ev_assign rfl) ?_
          refine WL_nil ?_
          refine thenE_n ?_
          refine W_region ?_
          refine WL_q rfl (ev_move rfl) ?_
          refine WL_q rfl (ev_move rfl) ?_
          refine WL_q rfl (ev_move rfl) ?_
          have hl54 : m[i].toNat < l.length := by omega
          have ht54 := totL_le hl54
          obtain ⟨a54, c54, hc54, hr54⟩ := hl.row hl54
          refine WL_q rfl (ev_indexAddr Try.underlying40 sz23 rfl rfl (hl.isSome (by omega)) (by omega) (by omega)) ?_
          refine WL_q rfl (ev_load one23 rfl (hc54)) ?_
          refine WL_m rfl (ev_call rfl (l1Own_own _ _ l[m[i].toNat] _ hr54 (by omega) (by omega))) ?_
          rintro _ w56 ⟨a56, c56, rfl, hO56, hE56⟩
          have hz56 := hE56.size
          replace hE := hE.trans hE56
          replace hRL2 := hRL2.trans hE56
          replace hA := hA.ext hE56
          replace hB := hB.ext hE56
          replace hm := hm.ext hE56
          replace hl := hl.ext hE56
          replace hB4 := hB4.ext hE56
          replace hB5 := hB5.ext hE56
          replace hR := hR.ext hE56
          replace hr54 := hr54.ext hE56
          refine WL_m rfl (ev_lit1 Try.underlying40 el23 (by decide) (by decide) rfl rfl) ?_
          rintro _ w57 ⟨rfl, hN57⟩
          have hz57 := hN57.size
          replace hE := hE.trans hN57.ext
          replace hRL2 := hRL2.trans hN57.ext
          replace hA := hA.ext hN57.ext
          replace hB := hB.ext hN57.ext
          replace hm := hm.ext hN57.ext
          replace hl := hl.ext hN57.ext
          replace hB4 := hB4.ext hN57.ext
          replace hB5 := hB5.ext hN57.ext
          replace hR := hR.ext hN57.ext
          replace hr54 := hr54.ext hN57.ext
          replace hO56 := hO56.ext hN57.ext
          have hB57 := hN57.blk
          obtain ⟨vs58, hA58⟩ := hR
          have hP58 := hA58.out
          refine WL_m rfl (ev_append Try.underlying40 el23 rfl (by decide) rfl rfl hP58 (SAt.of_blk (cs := [_]) (ds := []) hB57) rfl (by simp [Value.oneCell']) (by omega) (by unfold maxLen; omega) (by omega)) ?_
          rintro _ w58 ⟨a58, c58, rfl, hO58, hK58, hQ58⟩
          have hz58 := hK58.size
          replace hE := hE.app hK58 (fun q hq => by have h1 := (hP58.block q hq).1; have h2 := hA58.otop q hq; omega)
          replace hRL2 := hRL2.app hK58 (fun q hq => by have h1 := (hP58.block q hq).1; have h2 := hA58.otop q hq; omega)
          replace hA := hA.app hK58 (hP58) (by omega)
          replace hB := hB.app hK58 (hP58) (by omega)
          replace hm := hm.app hK58 (hP58) (by omega)
          replace hl := hl.app hK58 (hP58) (by omega)
          replace hB4 := hB4.app hK58 (hP58) (by omega)
          replace hB5 := hB5.app hK58 (hP58) (by omega)
          replace hr54 := hr54.app hK58 (hP58) (by omega)
          have hP58 := hO58
          have hR := rowsf_snoc hA58 hO56 (by omega) (by omega) hK58 hP58 rfl hQ58 (by omega)
          refine WL_q rfl (ev_assign rfl) ?_
          refine WL_nil ?_
          refine blockE_n ?_
          refine thenE_n ?_
          refine W_region ?_
          refine WL_q rfl (ev_add rfl rfl (by omega)) ?_
          refine WL_q rfl (ev_move rfl) ?_
          refine WL_nil ?_
          refine thenE_n ?_
          have hne := thrL_at (l := l) hlm hmi2
          exact ⟨(i + 1, a58, c58), (Subs.c rfl (Subs.c rfl (Subs.c rfl Subs.n))), (Subs.c (lkS rfl (by rw [← hne]; simp)) (Subs.c (lkI rfl (by omega)) Subs.n)), ⟨hRL2, ⟨by omega, hR.to hne⟩⟩, by first | omega | (dsimp only; omega)⟩
        · have hp48 := of_decide_eq_false hg48
          refine W_exit ?_
          refine thenE_x ?_
          refine thenE_x ?_
          refine blockE_hit ?_
          refine thenE_n ?_
          refine W_seq ?_
          refine W_region ?_
          refine WL_q rfl (ev_move rfl) ?_
          refine WL_q rfl (ev_assign rfl) ?_
          refine WL_q rfl (ev_assign rfl) ?_
          refine WL_nil ?_
          refine thenE_n ?_
          refine W_ret ?_
          refine ret2 rfl rfl rfl ?_
          first | (exact ⟨none, 0, [], _, rfl, .no (fun h => hp18 h.1), Nest.nil, ⟨by simp, by simp [totL]⟩, hE⟩) | (exact ⟨none, 0, [], _, rfl, .no (fun h => hp26 h.2.1), Nest.nil, ⟨by simp, by simp [totL]⟩, hE⟩) | (refine ⟨none, 0, [], _, rfl, .no (fun h => ?_), Nest.nil, ⟨by simp, by simp [totL]⟩, hE⟩; have h9 := h.2.2 i hlt; rw [getD_eq hlt, getD_eq hltB] at h9; omega) | (have hi9 : i = (thrL l m).length := (by omega); subst hi9; rw [List.take_length] at hR; exact ⟨_, _, thrL l m, _, by rw [List.take_length], .yes ⟨hp18, hpo⟩ rfl, hR.is.mono (Nat.zero_le _) (Nat.le_refl _), (thrL_tot hp18.1 hp18.2.1 hp18.2.2 hpo).2, hE⟩)

set_option maxHeartbeats 8000000 in
set_option maxRecDepth 100000 in
theorem law_PullPorts (nA : NA) (A : Net) (nB : NA) (B : Net) (am : Option Addr) (cm : Nat) (m : List Int) (al : Option Addr) (cl : Nat) (l : List (List Int)) (w : World) (hA : IsNet 0 w.heap.size w nA A) (hsA : SmN A) (hB : IsNet 0 w.heap.size w nB B) (hsB : SmN B) (hm : Ints 0 w.heap.size w am cm m) (hl : Intss 0 w.heap.size w al cl l) (hszl : (l.length : Int) ≤ 9223372036854775807) (hszsl : ∀ x ∈ l, (x.length : Int) ≤ 9223372036854775807) :
    Fn Try.prog 5 #[netV nA A, netV nB B, .slice am m.length cm, .slice al l.length cl] w (fun v w' => v = VB true ∧ Ext w w') := by
  have hE := Ext.refl w
  refine Fn_of Try.func5 rfl rfl (by kernel_rfl) rfl ?_
  refine W_seq ?_
  refine W_region ?_
  refine WL_m rfl (ev_box rfl) ?_
  rintro _ w4 ⟨rfl, hN4⟩
  have hz4 := hN4.size
  replace hE := hE.trans hN4.ext
  replace hA := hA.ext hN4.ext
  replace hB := hB.ext hN4.ext
  replace hm := hm.ext hN4.ext
  replace hl := hl.ext hN4.ext
  have hB4 : Blk w4 _ _ [_, _, _] := hN4.blk
  refine WL_m rfl (ev_box rfl) ?_
  rintro _ w5 ⟨rfl, hN5⟩
  have hz5 := hN5.size
  replace hE := hE.trans hN5.ext
  replace hA := hA.ext hN5.ext
  replace hB := hB.ext hN5.ext
  replace hm := hm.ext hN5.ext
  replace hl := hl.ext hN5.ext
  replace hB4 := hB4.ext hN5.ext
  have hB5 : Blk w5 _ _ [_, _, _] := hN5.blk
  refine WL_q rfl (ev_assign rfl) ?_
  refine WL_nil ?_
  refine thenE_n ?_
  refine W_seq ?_
  refine W_seq ?_
  refine W_region ?_
  refine WL_q rfl (ev_move rfl) ?_
  refine WL_q rfl (ev_len Try.underlying23 rfl) ?_
  refine WL_q rfl (ev_gtr rfl rfl) ?_
  refine WL_nil ?_
  refine thenE_n ?_
  refine W_cond rfl (fun hg25 => ?_) (fun hg25 => ?_)
  · have hp25 := of_decide_eq_true hg25
    refine W_seq ?_
    refine W_region ?_
    refine WL_q rfl (ev_assign rfl) ?_
    refine WL_nil ?_
    refine thenE_n ?_
    refine W_ret ?_
    refine thenE_r ?_
    refine ret1 rfl rfl ?_
    first | (exact ⟨rfl, hE⟩) | (exact (tfX hg25).elim) | (exact (decF hg25).elim) | (exfalso; omega)
  · have hp25 := of_decide_eq_false hg25
    refine W_skip ?_
    refine thenE_n ?_
    refine W_seq ?_
    refine W_region ?_
    refine WL_q rfl (ev_assign rfl) ?_
    refine WL_nil ?_
    refine thenE_n ?_
    refine W_seq ?_
    refine W_region ?_
    refine WL_q rfl (ev_loads st25 sz25 rfl (cellsB hB4) rfl) ?_
    refine WL_q rfl (ev_move rfl) ?_
    refine WL_m rfl (ev_call rfl (szNetwork_spec _ A _ _ hA (by omega) hsA)) ?_
    rintro _ w28 ⟨r28, rfl, hE28, hr28⟩
    have hz28 := hE28.size
    replace hE := hE.trans hE28
    replace hA := hA.ext hE28
    replace hB := hB.ext hE28
    replace hm := hm.ext hE28
    replace hl := hl.ext hE28
    replace hB4 := hB4.ext hE28
    replace hB5 := hB5.ext hE28
    refine WL_q rfl (ev_assign rfl) ?_
    refine WL_nil ?_
    refine thenE_n ?_
    refine W_seq ?_
    refine W_seq ?_
    refine W_region ?_
    refine WL_q rfl (ev_move rfl) ?_
    refine WL_q rfl (ev_lss rfl rfl) ?_
    refine WL_nil ?_
    refine thenE_n ?_
    refine W_cond rfl (fun hg30 => ?_) (fun hg30 => ?_)
    · have hp30 := of_decide_eq_true hg30
      refine W_seq ?_
      refine W_region ?_
      refine WL_q rfl (ev_assign rfl) ?_
      refine WL_nil ?_
      refine thenE_n ?_
      refine W_ret ?_
      refine thenE_r ?_
      refine ret1 rfl rfl ?_
      first | (exact ⟨rfl, hE⟩) | (exact (tfX hg30).elim) | (exact (decF hg30).elim) | (exfalso; omega)
    · have hp30 := of_decide_eq_false hg30
      refine W_skip ?_
      refine thenE_n ?_
      refine W_seq ?_
      refine W_region ?_
      refine WL_q rfl (ev_loads st25 sz25 rfl (cellsB hB5) rfl) ?_
      refine WL_q rfl (ev_move rfl) ?_
      refine WL_m rfl (ev_call rfl (szNetwork_spec _ B _ _ hB (by omega) hsB)) ?_
      rintro _ w33 ⟨r33, rfl, hE33, hr33⟩
      have hz33 := hE33.size
      replace hE := hE.trans hE33
      replace hA := hA.ext hE33
      replace hB := hB.ext hE33
      replace hm := hm.ext hE33
      replace hl := hl.ext hE33
      replace hB4 := hB4.ext hE33
      replace hB5 := hB5.ext hE33
      refine WL_q rfl (ev_assign rfl) ?_
      refine WL_nil ?_
      refine thenE_n ?_
      refine W_seq ?_
      refine W_seq ?_
      refine W_region ?_
      refine WL_q rfl (ev_move rfl) ?_
      refine WL_q rfl (ev_lss rfl rfl) ?_
      refine WL_nil ?_
      refine thenE_n ?_
      refine W_cond rfl (fun hg35 => ?_) (fun hg35 => ?_)
      · have hp35 := of_decide_eq_true hg35
        refine W_seq ?_
        refine W_region ?_
        refine WL_q rfl (ev_assign rfl) ?_
        refine WL_nil ?_
        refine thenE_n ?_
        refine W_ret ?_
        refine thenE_r ?_
        refine ret1 rfl rfl ?_
        first | (exact ⟨rfl, hE⟩) | (exact (tfX hg35).elim) | (exact (decF hg35).elim) | (exfalso; omega)
      · have hp35 := of_decide_eq_false hg35
        refine W_skip ?_
        refine thenE_n ?_
        refine W_seq ?_
        refine W_region ?_
        refine WL_q rfl (ev_move rfl) ?_
        refine WL_q rfl (ev_move rfl) ?_
        refine WL_m rfl (ev_call rfl (szIntSS_spec _ _ _ _ _ (by assumption) (by omega) (by omega) (by assumption))) ?_
        rintro _ w38 ⟨r38, rfl, hE38, hr38⟩
        have hz38 := hE38.size
        replace hE := hE.trans hE38
        replace hA := hA.ext hE38
        replace hB := hB.ext hE38
        replace hm := hm.ext hE38
        replace hl := hl.ext hE38
        replace hB4 := hB4.ext hE38
        replace hB5 := hB5.ext hE38
        refine WL_q rfl (ev_assign rfl) ?_
        refine WL_nil ?_
        refine thenE_n ?_
        refine W_seq ?_
        refine W_seq ?_
        refine W_region ?_
        refine WL_q rfl (ev_move rfl) ?_
        refine WL_q rfl (ev_lss rfl rfl) ?_
        refine WL_nil ?_
        refine thenE_n ?_
        refine W_cond rfl (fun hg40 => ?_) (fun hg40 => ?_)
        · have hp40 := of_decide_eq_true hg40
          refine W_seq ?_
          refine W_region ?_
          refine WL_q rfl (ev_assign rfl) ?_
          refine WL_nil ?_
          refine thenE_n ?_
          refine W_ret ?_
          refine thenE_r ?_
          refine ret1 rfl rfl ?_
          first | (exact ⟨rfl, hE⟩) | (exact (tfX hg40).elim) | (exact (decF hg40).elim) | (exfalso; omega)
        · have hp40 := of_decide_eq_false hg40
          refine W_skip ?_
          refine thenE_n ?_
          refine W_seq ?_
          refine W_drawE [(0, true), (2, true), (4, true), (6, true), (1, false), (3, false), (5, false), (7, false), (8, false), (9, true), (10, true), (11, true), (12, true), (13, true)] mixed (by kernel_rfl) rfl (by kernel_rfl) ?_
          intro wd13 hEd13 hzd13
          replace hE := hE.trans hEd13
          replace hA := hA.ext hEd13
          replace hB := hB.ext hEd13
          replace hm := hm.ext hEd13
          replace hl := hl.ext hEd13
          replace hB4 := hB4.ext hEd13
          replace hB5 := hB5.ext hEd13
          have hDd13 := Ext.refl wd13
          refine PW_q rfl rfl (fun wq hq => ev_loads st25 sz25 rfl (cellsB (hq.blk hB4)) rfl) ?_
          refine PW_q rfl rfl (fun wq hq => ev_loads st25 sz25 rfl (cellsB (hq.blk hB5)) rfl) ?_
          refine PW_q rfl rfl (fun wq hq => ev_move rfl) ?_
          refine PW_q rfl rfl (fun wq hq => ev_move rfl) ?_
          refine PW_m rfl rfl (ev_call rfl (toNetwork_spec _ A _ hA (by omega) (by omega))) ?_
          rintro _ w43 ⟨h43, rfl, hF43, hE43⟩
          have hz43 := hE43.size
          replace hE := hE.trans hE43
          replace hDd13 := hDd13.trans hE43
          have hN43 := hF43.is
          refine ⟨hDd13, ?_⟩
          have hA_3 := hA.ext hDd13
          have hB_3 := hB.ext hDd13
          have hm_3 := hm.ext hDd13
          have hl_3 := hl.ext hDd13
          have hB4_3 := hB4.ext hDd13
          have hB5_3 := hB5.ext hDd13
          refine PW_m rfl rfl (ev_call rfl (toNetwork_spec _ B _ hB_3 (by omega) (by omega))) ?_
          rintro _ w45 ⟨h45, rfl, hF45, hE45⟩
          have hz45 := hE45.size
          replace hE := hE.trans hE45
          replace hDd13 := hDd13.trans hE45
          replace hF43 := hF43.ext hE45
          replace hN43 := hN43.ext hE45
          have hN45 := hF45.is
          refine ⟨hDd13, ?_⟩
          have hA_5 := hA.ext hDd13
          have hB_5 := hB.ext hDd13
          have hm_5 := hm.ext hDd13
          have hl_5 := hl.ext hDd13
          have hB4_5 := hB4.ext hDd13
          have hB5_5 := hB5.ext hDd13
          refine PW_m rfl rfl (ev_call rfl (toIntS_spec _ _ m _ hm_5 (by omega) (by omega))) ?_
          rintro _ w47 ⟨a47, rfl, hF47, hE47⟩
          have hz47 := hE47.size
          replace hE := hE.trans hE47
          replace hDd13 := hDd13.trans hE47
          replace hF43 := hF43.ext hE47
          replace hN43 := hN43.ext hE47
          replace hF45 := hF45.ext hE47
          replace hN45 := hN45.ext hE47
          have hI47 := hF47.is
          refine ⟨hDd13, ?_⟩
          have hA_7 := hA.ext hDd13
          have hB_7 := hB.ext hDd13
          have hm_7 := hm.ext hDd13
          have hl_7 := hl.ext hDd13
          have hB4_7 := hB4.ext hDd13
          have hB5_7 := hB5.ext hDd13
          refine PW_m rfl rfl (ev_call rfl (toIntSS_spec _ _ l _ hl_7 (by omega) (by omega))) ?_
          rintro _ w49 ⟨a49, rfl, hF49, hE49⟩
          have hz49 := hE49.size
          replace hE := hE.trans hE49
          replace hDd13 := hDd13.trans hE49
          replace hF43 := hF43.ext hE49
          replace hN43 := hN43.ext hE49
          replace hF45 := hF45.ext hE49
          replace hN45 := hN45.ext hE49
          replace hF47 := hF47.ext hE49
          replace hI47 := hI47.ext hE49
          have hI49 := hF49.is
          refine ⟨hDd13, ?_⟩
          have hA_8 := hA.ext hDd13
          have hB_8 := hB.ext hDd13
          have hm_8 := hm.ext hDd13
          have hl_8 := hl.ext hDd13
          have hB4_8 := hB4.ext hDd13
          have hB5_8 := hB5.ext hDd13
          refine PW_m rfl rfl (ev_call rfl (sPullPorts_spec _ A _ B _ _ m _ _ l _ hN43 (by omega) (by omega) hN45 (by omega) (by omega) hI47 (by omega) (by omega) hI49 (by omega) (by omega))) ?_
          rintro _ w50 ⟨a50, c50, y50, q50, rfl, hr50, hx50, ⟨hm50, ht50⟩, hE50⟩
          have hz50 := hE50.size
          replace hE := hE.trans hE50
          replace hDd13 := hDd13.trans hE50
          replace hF43 := hF43.ext hE50
          replace hN43 := hN43.ext hE50
          replace hF45 := hF45.ext hE50
          replace hN45 := hN45.ext hE50
          replace hF47 := hF47.ext hE50
          replace hI47 := hI47.ext hE50
          replace hF49 := hF49.ext hE50
          replace hI49 := hI49.ext hE50
          refine ⟨hDd13, ?_⟩
          refine PW_q rfl rfl (fun wq hq => ev_move rfl) ?_
          refine PW_q rfl rfl (fun wq hq => ev_extract rfl rfl) ?_
          refine PW_q rfl rfl (fun wq hq => ev_extract rfl rfl) ?_
          refine PW_q rfl rfl (fun wq hq => ev_assign rfl) ?_
          refine PW_q rfl rfl (fun wq hq => ev_assign rfl) ?_
          replace hA := hA.ext hDd13
          replace hB := hB.ext hDd13
          replace hm := hm.ext hDd13
          replace hl := hl.ext hDd13
          replace hB4 := hB4.ext hDd13
          replace hB5 := hB5.ext hDd13
          refine PW_nil ?_
          refine thenE_n ?_
          refine W_seq ?_
          refine W_region ?_
          refine WL_q rfl (ev_loads st25 sz25 rfl (cellsB hB4) rfl) ?_
          refine WL_m rfl (ev_call rfl (toNetwork_spec _ A _ hA (by omega) (by omega))) ?_
          rintro _ w54 ⟨h54, rfl, hF54, hE54⟩
          have hz54 := hE54.size
          replace hE := hE.trans hE54
          replace hA := hA.ext hE54
          replace hB := hB.ext hE54
          replace hm := hm.ext hE54
          replace hl := hl.ext hE54
          replace hB4 := hB4.ext hE54
          replace hB5 := hB5.ext hE54
          replace hF43 := hF43.ext hE54
          replace hN43 := hN43.ext hE54
          replace hF45 := hF45.ext hE54
          replace hN45 := hN45.ext hE54
          replace hF47 := hF47.ext hE54
          replace hI47 := hI47.ext hE54
          replace hF49 := hF49.ext hE54
          replace hI49 := hI49.ext hE54
          replace hx50 := hx50.ext hE54
          have hN54 := hF54.is
          refine WL_m rfl (ev_alloc zr31) ?_
          rintro _ w12 ⟨rfl, hN12⟩
          have hz12 := hN12.size
          replace hE := hE.trans hN12.ext
          replace hA := hA.ext hN12.ext
          replace hB := hB.ext hN12.ext
          replace hm := hm.ext hN12.ext
          replace hl := hl.ext hN12.ext
          replace hB4 := hB4.ext hN12.ext
          replace hB5 := hB5.ext hN12.ext
          replace hF43 := hF43.ext hN12.ext
          replace hN43 := hN43.ext hN12.ext
          replace hF45 := hF45.ext hN12.ext
          replace hN45 := hN45.ext hN12.ext
          replace hF47 := hF47.ext hN12.ext
          replace hI47 := hI47.ext hN12.ext
          replace hF49 := hF49.ext hN12.ext
          replace hI49 := hI49.ext hN12.ext
          replace hx50 := hx50.ext hN12.ext
          replace hF54 := hF54.ext hN12.ext
          replace hN54 := hN54.ext hN12.ext
          have hB12 : Blk w12 _ _ [_, _, _] := hN12.blk
          refine WL_s (ev_stores sz31 rfl rfl rfl (by simp [Value.oneCell']) hB12 (by simp)) ?_
          rintro _ w14_3 hS14_3
          have hz14_3 := hS14_3.size
          replace hE := hE.sto hS14_3 (by omega)
          replace hA := hA.sto hS14_3 (by omega)
          replace hB := hB.sto hS14_3 (by omega)
          replace hm := hm.sto hS14_3 (by omega)
          replace hl := hl.sto hS14_3 (by omega)
          replace hB4 := hB4.sto hS14_3 (by omega)
          replace hB5 := hB5.sto hS14_3 (by omega)
          replace hF43 := hF43.sto hS14_3 (by omega)
          replace hN43 := hN43.sto hS14_3 (by omega)
          replace hF45 := hF45.sto hS14_3 (by omega)
          replace hN45 := hN45.sto hS14_3 (by omega)
          replace hF47 := hF47.sto hS14_3 (by omega)
          replace hI47 := hI47.sto hS14_3 (by omega)
          replace hF49 := hF49.sto hS14_3 (by omega)
          replace hI49 := hI49.sto hS14_3 (by omega)
          replace hx50 := hx50.sto hS14_3 (by omega)
          replace hF54 := hF54.sto hS14_3 (by omega)
          replace hN54 := hN54.sto hS14_3 (by omega)
          replace hB12 : Blk w14_3 _ _ [_, _, _] := hS14_3.blk
          refine WL_nil ?_
          refine thenE_n ?_
          refine W_seq ?_
          refine W_region ?_
          refine WL_q rfl (ev_loads st25 sz25 rfl (cellsB hB5) rfl) ?_
          refine WL_m rfl (ev_call rfl (toNetwork_spec _ B _ hB (by omega) (by omega))) ?_
          rintro _ w56 ⟨h56, rfl, hF56, hE56⟩
          have hz56 := hE56.size
          replace hE := hE.trans hE56
          replace hA := hA.ext hE56
          replace hB := hB.ext hE56
          replace hm := hm.ext hE56
          replace hl := hl.ext hE56
          replace hB4 := hB4.ext hE56
          replace hB5 := hB5.ext hE56
          replace hF43 := hF43.ext hE56
          replace hN43 := hN43.ext hE56
          replace hF45 := hF45.ext hE56
          replace hN45 := hN45.ext hE56
          replace hF47 := hF47.ext hE56
          replace hI47 := hI47.ext hE56
          replace hF49 := hF49.ext hE56
          replace hI49 := hI49.ext hE56
          replace hx50 := hx50.ext hE56
          replace hF54 := hF54.ext hE56
          replace hN54 := hN54.ext hE56
          replace hB12 := hB12.ext hE56
          have hN56 := hF56.is
          refine WL_m rfl (ev_alloc zr31) ?_
          rintro _ w13 ⟨rfl, hN13⟩
          have hz13 := hN13.size
          replace hE := hE.trans hN13.ext
          replace hA := hA.ext hN13.ext
          replace hB := hB.ext hN13.ext
          replace hm := hm.ext hN13.ext
          replace hl := hl.ext hN13.ext
          replace hB4 := hB4.ext hN13.ext
          replace hB5 := hB5.ext hN13.ext
          replace hF43 := hF43.ext hN13.ext
          replace hN43 := hN43.ext hN13.ext
          replace hF45 := hF45.ext hN13.ext
          replace hN45 := hN45.ext hN13.ext
          replace hF47 := hF47.ext hN13.ext
          replace hI47 := hI47.ext hN13.ext
          replace hF49 := hF49.ext hN13.ext
          replace hI49 := hI49.ext hN13.ext
          replace hx50 := hx50.ext hN13.ext
          replace hF54 := hF54.ext hN13.ext
          replace hN54 := hN54.ext hN13.ext
          replace hB12 := hB12.ext hN13.ext
          replace hF56 := hF56.ext hN13.ext
          replace hN56 := hN56.ext hN13.ext
          have hB13 : Blk w13 _ _ [_, _, _] := hN13.blk
          refine WL_s (ev_stores sz31 rfl rfl rfl (by simp [Value.oneCell']) hB13 (by simp)) ?_
          rintro _ w15_3 hS15_3
          have hz15_3 := hS15_3.size
          replace hE := hE.sto hS15_3 (by omega)
          replace hA := hA.sto hS15_3 (by omega)
          replace hB := hB.sto hS15_3 (by omega)
          replace hm := hm.sto hS15_3 (by omega)
          replace hl := hl.sto hS15_3 (by omega)
          replace hB4 := hB4.sto hS15_3 (by omega)
          replace hB5 := hB5.sto hS15_3 (by omega)
          replace hF43 := hF43.sto hS15_3 (by omega)
          replace hN43 := hN43.sto hS15_3 (by omega)
          replace hF45 := hF45.sto hS15_3 (by omega)
          replace hN45 := hN45.sto hS15_3 (by omega)
          replace hF47 := hF47.sto hS15_3 (by omega)
          replace hI47 := hI47.sto hS15_3 (by omega)
          replace hF49 := hF49.sto hS15_3 (by omega)
          replace hI49 := hI49.sto hS15_3 (by omega)
          replace hx50 := hx50.sto hS15_3 (by omega)
          replace hF54 := hF54.sto hS15_3 (by omega)
          replace hN54 := hN54.sto hS15_3 (by omega)
          replace hB12 := hB12.sto hS15_3 (by omega)
          replace hF56 := hF56.sto hS15_3 (by omega)
          replace hN56 := hN56.sto hS15_3 (by omega)
          replace hB13 : Blk w15_3 _ _ [_, _, _] := hS15_3.blk
          refine WL_nil ?_
          refine thenE_n ?_
          refine W_seq ?_
          refine W_region ?_
          refine WL_q rfl (ev_move rfl) ?_
          refine WL_m rfl (ev_call rfl (toIntS_spec _ _ m _ hm (by omega) (by omega))) ?_
          rintro _ w58 ⟨a58, rfl, hF58, hE58⟩
          have hz58 := hE58.size
          replace hE := hE.trans hE58
          replace hA := hA.ext hE58
          replace hB := hB.ext hE58
          replace hm := hm.ext hE58
          replace hl := hl.ext hE58
          replace hB4 := hB4.ext hE58
          replace hB5 := hB5.ext hE58
          replace hF43 := hF43.ext hE58
          replace hN43 := hN43.ext hE58
          replace hF45 := hF45.ext hE58
          replace hN45 := hN45.ext hE58
          replace hF47 := hF47.ext hE58
          replace hI47 := hI47.ext hE58
          replace hF49 := hF49.ext hE58
          replace hI49 := hI49.ext hE58
          replace hx50 := hx50.ext hE58
          replace hF54 := hF54.ext hE58
          replace hN54 := hN54.ext hE58
          replace hB12 := hB12.ext hE58
          replace hF56 := hF56.ext hE58
          replace hN56 := hN56.ext hE58
          replace hB13 := hB13.ext hE58
          have hI58 := hF58.is
          refine WL_q rfl (ev_assign rfl) ?_
          refine WL_nil ?_
          refine thenE_n ?_
          refine W_seq ?_
          refine W_region ?_
          refine WL_q rfl (ev_move rfl) ?_
          refine WL_m rfl (ev_call rfl (toIntSS_spec _ _ l _ hl (by omega) (by omega))) ?_
          rintro _ w60 ⟨a60, rfl, hF60, hE60⟩
          have hz60 := hE60.size
          replace hE := hE.trans hE60
          replace hA := hA.ext hE60
          replace hB := hB.ext hE60
          replace hm := hm.ext hE60
          replace hl := hl.ext hE60
          replace hB4 := hB4.ext hE60
          replace hB5 := hB5.ext hE60
          replace hF43 := hF43.ext hE60
          replace hN43 := hN43.ext hE60
          replace hF45 := hF45.ext hE60
          replace hN45 := hN45.ext hE60
          replace hF47 := hF47.ext hE60
          replace hI47 := hI47.ext hE60
          replace hF49 := hF49.ext hE60
          replace hI49 := hI49.ext hE60
          replace hx50 := hx50.ext hE60
          replace hF54 := hF54.ext hE60
          replace hN54 := hN54.ext hE60
          replace hB12 := hB12.ext hE60
          replace hF56 := hF56.ext hE60
          replace hN56 := hN56.ext hE60
          replace hB13 := hB13.ext hE60
          replace hF58 := hF58.ext hE60
          replace hI58 := hI58.ext hE60
          have hI60 := hF60.is
          refine WL_q rfl (ev_assign rfl) ?_
          refine WL_nil ?_
          refine thenE_n ?_
          refine W_seq ?_
          refine W_region ?_
          refine WL_q rfl (ev_loads st31 sz31 rfl (cellsB hB12) rfl) ?_
          refine WL_q rfl (ev_loads st31 sz31 rfl (cellsB hB13) rfl) ?_
          refine WL_q rfl (ev_move rfl) ?_
          refine WL_q rfl (ev_move rfl) ?_
          refine WL_m rfl (ev_call rfl (PullPorts_spec _ A _ B _ _ m _ _ l _ hN54 (by omega) (by omega) hN56 (by omega) (by omega) hI58 (by omega) (by omega) hI60 (by omega) (by omega))) ?_
          rintro _ w66 ⟨a66, c66, y66, q66, rfl, hr66, hO66, ⟨hl66, hm66, ht66⟩, hE66⟩
          have hz66 := hE66.size
          replace hE := hE.trans hE66
          replace hA := hA.ext hE66
          replace hB := hB.ext hE66
          replace hm := hm.ext hE66
          replace hl := hl.ext hE66
          replace hB4 := hB4.ext hE66
          replace hB5 := hB5.ext hE66
          replace hF43 := hF43.ext hE66
          replace hN43 := hN43.ext hE66
          replace hF45 := hF45.ext hE66
          replace hN45 := hN45.ext hE66
          replace hF47 := hF47.ext hE66
          replace hI47 := hI47.ext hE66
          replace hF49 := hF49.ext hE66
          replace hI49 := hI49.ext hE66
          replace hx50 := hx50.ext hE66
          replace hF54 := hF54.ext hE66
          replace hN54 := hN54.ext hE66
          replace hB12 := hB12.ext hE66
          replace hF56 := hF56.ext hE66
          replace hN56 := hN56.ext hE66
          replace hB13 := hB13.ext hE66
          replace hF58 := hF58.ext hE66
          replace hI58 := hI58.ext hE66
          replace hF60 := hF60.ext hE66
          replace hI60 := hI60.ext hE66
          refine WL_q rfl (ev_move rfl) ?_
          refine WL_q rfl (ev_extract rfl rfl) ?_
          refine WL_q rfl (ev_extract rfl rfl) ?_
          refine WL_q rfl (ev_assign rfl) ?_
          refine WL_q rfl (ev_assign rfl) ?_
          refine WL_nil ?_
          refine thenE_n ?_
          refine W_seq ?_
          refine W_seq ?_
          refine W_region ?_
          refine WL_q rfl (ev_move rfl) ?_
          refine WL_q rfl (ev_move rfl) ?_
          refine WL_m rfl (ev_call rfl (eqIntSS_spec _ _ _ _ y66 y50 _ (hO66.is) hx50 (by omega))) ?_
          rintro _ w71 ⟨rfl, hE71⟩
          have hz71 := hE71.size
          replace hE := hE.trans hE71
          replace hA := hA.ext hE71
          replace hB := hB.ext hE71
          replace hm := hm.ext hE71
          replace hl := hl.ext hE71
          replace hB4 := hB4.ext hE71
          replace hB5 := hB5.ext hE71
          replace hF43 := hF43.ext hE71
          replace hN43 := hN43.ext hE71
          replace hF45 := hF45.ext hE71
          replace hN45 := hN45.ext hE71
          replace hF47 := hF47.ext hE71
          replace hI47 := hI47.ext hE71
          replace hF49 := hF49.ext hE71
          replace hI49 := hI49.ext hE71
          replace hx50 := hx50.ext hE71
          replace hF54 := hF54.ext hE71
          replace hN54 := hN54.ext hE71
          replace hB12 := hB12.ext hE71
          replace hF56 := hF56.ext hE71
          replace hN56 := hN56.ext hE71
          replace hB13 := hB13.ext hE71
          replace hF58 := hF58.ext hE71
          replace hI58 := hI58.ext hE71
          replace hF60 := hF60.ext hE71
          replace hI60 := hI60.ext hE71
          replace hO66 := hO66.ext hE71
          refine WL_q rfl (ev_not rfl) ?_
          refine WL_q rfl (ev_move rfl) ?_
          refine WL_splitv (t := 73) rfl (fun hg72 => ?_) (fun hg72 => ?_)
          · have hg71 := not_true hg72
            refine WL_no rfl rfl hg72 rfl ?_
            refine WL_no rfl rfl hg72 rfl ?_
            refine WL_no rfl rfl hg72 rfl ?_
            refine WL_q rfl (ev_pick_t rfl hg72 rfl) ?_
            refine WL_nil ?_
            refine thenE_n ?_
            refine W_cond_t rfl ?_
            refine W_seq ?_
            refine W_region ?_
            refine WL_q rfl (ev_assign rfl) ?_
            refine WL_nil ?_
            refine thenE_n ?_
            refine W_ret ?_
            refine thenE_r ?_
            refine ret1 rfl rfl ?_
            first | (exact ⟨rfl, hE⟩) | (exact (bneE hg71 (hr66.det1 hr50)).elim) | (exact absurd (hr66.det1 hr50) hp71) | (exact absurd (hr66.det1 hr50) (of_decide_eq_false hg71)) | (exact (bneE hg71 (hr66.det2 hr50)).elim) | (exact absurd (hr66.det2 hr50) hp71) | (exact absurd (hr66.det2 hr50) (of_decide_eq_false hg71)) | (exact (bneE hg71 (hr66.det3 hr50)).elim) | (exact absurd (hr66.det3 hr50) hp71) | (exact absurd (hr66.det3 hr50) (of_decide_eq_false hg71)) | (exact (tfX hg71).elim) | (exact (decF hg71).elim) | (exfalso; omega)
          · have hg71 := not_false hg72
            refine WL_qg rfl rfl hg72 rfl (ev_move rfl) ?_
            refine WL_qg rfl rfl hg72 rfl (ev_move rfl) ?_
            refine WL_qg rfl rfl hg72 rfl (ev_neq_b Try.underlying4 rfl rfl) ?_
            refine WL_q rfl (ev_pick_f rfl hg72 rfl) ?_
            refine WL_nil ?_
            refine thenE_n ?_
            refine W_cond rfl (fun hg76 => ?_) (fun hg76 => ?_)
            · refine W_seq ?_
              refine W_region ?_
              refine WL_q rfl (ev_assign rfl) ?_
              refine WL_nil ?_
              refine thenE_n ?_
              refine W_ret ?_
              refine thenE_r ?_
              refine ret1 rfl rfl ?_
              first | (exact ⟨rfl, hE⟩) | (exact (bneE hg76 (hr66.det1 hr50)).elim) | (exact absurd (hr66.det1 hr50) hp76) | (exact absurd (hr66.det1 hr50) (of_decide_eq_false hg76)) | (exact (bneE hg76 (hr66.det2 hr50)).elim) | (exact absurd (hr66.det2 hr50) hp76) | (exact absurd (hr66.det2 hr50) (of_decide_eq_false hg76)) | (exact (bneE hg76 (hr66.det3 hr50)).elim) | (exact absurd (hr66.det3 hr50) hp76) | (exact absurd (hr66.det3 hr50) (of_decide_eq_false hg76)) | (exact (tfX hg76).elim) | (exact (decF hg76).elim) | (exfalso; omega)
            · refine W_skip ?_
              refine thenE_n ?_
              refine W_seq ?_
              refine W_seq ?_
              refine W_drawE [(0, true), (1, true), (2, false), (3, false), (4, true)] mixed (by kernel_rfl) rfl (by kernel_rfl) ?_
              intro wd21 hEd21 hzd21
              replace hE := hE.trans hEd21
              replace hA := hA.ext hEd21
              replace hB := hB.ext hEd21
              replace hm := hm.ext hEd21
              replace hl := hl.ext hEd21
              replace hB4 := hB4.ext hEd21
              replace hB5 := hB5.ext hEd21
              replace hF43 := hF43.ext hEd21
              replace hN43 := hN43.ext hEd21
              replace hF45 := hF45.ext hEd21
              replace hN45 := hN45.ext hEd21
              replace hF47 := hF47.ext hEd21
              replace hI47 := hI47.ext hEd21
              replace hF49 := hF49.ext hEd21
              replace hI49 := hI49.ext hEd21
              replace hx50 := hx50.ext hEd21
              replace hF54 := hF54.ext hEd21
              replace hN54 := hN54.ext hEd21
              replace hB12 := hB12.ext hEd21
              replace hF56 := hF56.ext hEd21
              replace hN56 := hN56.ext hEd21
              replace hB13 := hB13.ext hEd21
              replace hF58 := hF58.ext hEd21
              replace hI58 := hI58.ext hEd21
              replace hF60 := hF60.ext hEd21
              replace hI60 := hI60.ext hEd21
              replace hO66 := hO66.ext hEd21
              have hDd21 := Ext.refl wd21
              refine PW_q rfl rfl (fun wq hq => ev_loads st31 sz31 rfl (cellsB (hq.blk hB12)) rfl) ?_
              refine PW_q rfl rfl (fun wq hq => ev_loads st25 sz25 rfl (cellsB (hq.blk hB4)) rfl) ?_
              refine PW_m rfl rfl (ev_call rfl (toNetwork_spec _ A _ hA (by omega) (by omega))) ?_
              rintro _ w80 ⟨h80, rfl, hF80, hE80⟩
              have hz80 := hE80.size
              replace hE := hE.trans hE80
              replace hDd21 := hDd21.trans hE80
              have hN80 := hF80.is
              refine ⟨hDd21, ?_⟩
              have hA_3 := hA.ext hDd21
              have hB_3 := hB.ext hDd21
              have hm_3 := hm.ext hDd21
              have hl_3 := hl.ext hDd21
              have hB4_3 := hB4.ext hDd21
              have hB5_3 := hB5.ext hDd21
              have hF43_3 := hF43.ext hDd21
              have hN43_3 := hN43.ext hDd21
              have hF45_3 := hF45.ext hDd21
              have hN45_3 := hN45.ext hDd21
              have hF47_3 := hF47.ext hDd21
              have hI47_3 := hI47.ext hDd21
              have hF49_3 := hF49.ext hDd21
              have hI49_3 := hI49.ext hDd21
              have hx50_3 := hx50.ext hDd21
              have hF54_3 := hF54.ext hDd21
              have hN54_3 := hN54.ext hDd21
              have hB12_3 := hB12.ext hDd21
              have hF56_3 := hF56.ext hDd21
              have hN56_3 := hN56.ext hDd21
              have hB13_3 := hB13.ext hDd21
              have hF58_3 := hF58.ext hDd21
              have hI58_3 := hI58.ext hDd21
              have hF60_3 := hF60.ext hDd21
              have hI60_3 := hI60.ext hDd21
              have hO66_3 := hO66.ext hDd21
              refine PW_m rfl rfl (ev_call rfl (eqNetwork_spec _ _ A _ hN54_3 hN80 (by omega))) ?_
              rintro _ w81 ⟨rfl, hE81⟩
              have hz81 := hE81.size
              replace hE := hE.trans hE81
              replace hDd21 := hDd21.trans hE81
              replace hF80 := hF80.ext hE81
              replace hN80 := hN80.ext hE81
              refine ⟨hDd21, ?_⟩
              refine PW_q rfl rfl (fun wq hq => ev_not rfl) ?_
              replace hA := hA.ext hDd21
              replace hB := hB.ext hDd21
              replace hm := hm.ext hDd21
              replace hl := hl.ext hDd21
              replace hB4 := hB4.ext hDd21
              replace hB5 := hB5.ext hDd21
              replace hF43 := hF43.ext hDd21
              replace hN43 := hN43.ext hDd21
              replace hF45 := hF45.ext hDd21
              replace hN45 := hN45.ext hDd21
              replace hF47 := hF47.ext hDd21
              replace hI47 := hI47.ext hDd21
              replace hF49 := hF49.ext hDd21
              replace hI49 := hI49.ext hDd21
              replace hx50 := hx50.ext hDd21
              replace hF54 := hF54.ext hDd21
              replace hN54 := hN54.ext hDd21
              replace hB12 := hB12.ext hDd21
              replace hF56 := hF56.ext hDd21
              replace hN56 := hN56.ext hDd21
              replace hB13 := hB13.ext hDd21
              replace hF58 := hF58.ext hDd21
              replace hI58 := hI58.ext hDd21
              replace hF60 := hF60.ext hDd21
              replace hI60 := hI60.ext hDd21
              replace hO66 := hO66.ext hDd21
              refine PW_nil ?_
              refine thenE_n ?_
              refine W_cond rfl (fun hg82 => ?_) (fun hg82 => ?_)
              · have hg81 := not_true hg82
                refine W_seq ?_
                refine W_region ?_
                refine WL_q rfl (ev_assign rfl) ?_
                refine WL_nil ?_
                refine thenE_n ?_
                refine W_ret ?_
                refine thenE_r ?_
                refine ret1 rfl rfl ?_
                first | (exact ⟨rfl, hE⟩) | (exact (bneE hg81 (hr66.det1 hr50)).elim) | (exact absurd (hr66.det1 hr50) hp81) | (exact absurd (hr66.det1 hr50) (of_decide_eq_false hg81)) | (exact (bneE hg81 (hr66.det2 hr50)).elim) | (exact absurd (hr66.det2 hr50) hp81) | (exact absurd (hr66.det2 hr50) (of_decide_eq_false hg81)) | (exact (bneE hg81 (hr66.det3 hr50)).elim) | (exact absurd (hr66.det3 hr50) hp81) | (exact absurd (hr66.det3 hr50) (of_decide_eq_false hg81)) | (exact (tfX hg81).elim) | (exact (decF hg81).elim) | (exfalso; omega)
              · have hg81 := not_false hg82
                refine W_skip ?_
                refine thenE_n ?_
                refine W_seq ?_
                refine W_seq ?_
                refine W_drawE [(0, true), (1, true), (2, false), (3, false), (4, true)] mixed (by kernel_rfl) rfl (by kernel_rfl) ?_
                intro wd23 hEd23 hzd23
                replace hE := hE.trans hEd23
                replace hA := hA.ext hEd23
                replace hB := hB.ext hEd23
                replace hm := hm.ext hEd23
                replace hl := hl.ext hEd23
                replace hB4 := hB4.ext hEd23
                replace hB5 := hB5.ext hEd23
                replace hF43 := hF43.ext hEd23
                replace hN43 := hN43.ext hEd23
                replace hF45 := hF45.ext hEd23
                replace hN45 := hN45.ext hEd23
                replace hF47 := hF47.ext hEd23
                replace hI47 := hI47.ext hEd23
                replace hF49 := hF49.ext hEd23
                replace hI49 := hI49.ext hEd23
                replace hx50 := hx50.ext hEd23
                replace hF54 := hF54.ext hEd23
                replace hN54 := hN54.ext hEd23
                replace hB12 := hB12.ext hEd23
                replace hF56 := hF56.ext hEd23
                replace hN56 := hN56.ext hEd23
                replace hB13 := hB13.ext hEd23
                replace hF58 := hF58.ext hEd23
                replace hI58 := hI58.ext hEd23
                replace hF60 := hF60.ext hEd23
                replace hI60 := hI60.ext hEd23
                replace hO66 := hO66.ext hEd23
                replace hF80 := hF80.ext hEd23
                replace hN80 := hN80.ext hEd23
                have hDd23 := Ext.refl wd23
                refine PW_q rfl rfl (fun wq hq => ev_loads st31 sz31 rfl (cellsB (hq.blk hB13)) rfl) ?_
                refine PW_q rfl rfl (fun wq hq => ev_loads st25 sz25 rfl (cellsB (hq.blk hB5)) rfl) ?_
                refine PW_m rfl rfl (ev_call rfl (toNetwork_spec _ B _ hB (by omega) (by omega))) ?_
                rintro _ w85 ⟨h85, rfl, hF85, hE85⟩
                have hz85 := hE85.size
                replace hE := hE.trans hE85
                replace hDd23 := hDd23.trans hE85
                have hN85 := hF85.is
                refine ⟨hDd23, ?_⟩
                have hA_3 := hA.ext hDd23
                have hB_3 := hB.ext hDd23
                have hm_3 := hm.ext hDd23
                have hl_3 := hl.ext hDd23
                have hB4_3 := hB4.ext hDd23
                have hB5_3 := hB5.ext hDd23
                have hF43_3 := hF43.ext hDd23
                have hN43_3 := hN43.ext hDd23
                have hF45_3 := hF45.ext hDd23
                have hN45_3 := hN45.ext hDd23
                have hF47_3 := hF47.ext hDd23
                have hI47_3 := hI47.ext hDd23
                have hF49_3 := hF49.ext hDd23
                have hI49_3 := hI49.ext hDd23
                have hx50_3 := hx50.ext hDd23
                have hF54_3 := hF54.ext hDd23
                have hN54_3 := hN54.ext hDd23
                have hB12_3 := hB12.ext hDd23
                have hF56_3 := hF56.ext hDd23
                have hN56_3 := hN56.ext hDd23
                have hB13_3 := hB13.ext hDd23
                have hF58_3 := hF58.ext hDd23
                have hI58_3 := hI58.ext hDd23
                have hF60_3 := hF60.ext hDd23
                have hI60_3 := hI60.ext hDd23
                have hO66_3 := hO66.ext hDd23
                have hF80_3 := hF80.ext hDd23
                have hN80_3 := hN80.ext hDd23
                refine PW_m rfl rfl (ev_call rfl (eqNetwork_spec _ _ B _ hN56_3 hN85 (by omega))) ?_
                rintro _ w86 ⟨rfl, hE86⟩
                have hz86 := hE86.size
                replace hE := hE.trans hE86
                replace hDd23 := hDd23.trans hE86
                replace hF85 := hF85.ext hE86
                replace hN85 := hN85.ext hE86
                refine ⟨hDd23, ?_⟩
                refine PW_q rfl rfl (fun wq hq => ev_not rfl) ?_
                replace hA := hA.ext hDd23
                replace hB := hB.ext hDd23
                replace hm := hm.ext hDd23
                replace hl := hl.ext hDd23
                replace hB4 := hB4.ext hDd23
                replace hB5 := hB5.ext hDd23
                replace hF43 := hF43.ext hDd23
                replace hN43 := hN43.ext hDd23
                replace hF45 := hF45.ext hDd23
                replace hN45 := hN45.ext hDd23
                replace hF47 := hF47.ext hDd23
                replace hI47 := hI47.ext hDd23
                replace hF49 := hF49.ext hDd23
                replace hI49 := hI49.ext hDd23
                replace hx50 := hx50.ext hDd23
                replace hF54 := hF54.ext hDd23
                replace hN54 := hN54.ext hDd23
                replace hB12 := hB12.ext hDd23
                replace hF56 := hF56.ext hDd23
                replace hN56 := hN56.ext hDd23
                replace hB13 := hB13.ext hDd23
                replace hF58 := hF58.ext hDd23
                replace hI58 := hI58.ext hDd23
                replace hF60 := hF60.ext hDd23
                replace hI60 := hI60.ext hDd23
                replace hO66 := hO66.ext hDd23
                replace hF80 := hF80.ext hDd23
                replace hN80 := hN80.ext hDd23
                refine PW_nil ?_
                refine thenE_n ?_
                refine W_cond rfl (fun hg87 => ?_) (fun hg87 => ?_)
                · have hg86 := not_true hg87
                  refine W_seq ?_
                  refine W_region ?_
                  refine WL_q rfl (ev_assign rfl) ?_
                  refine WL_nil ?_
                  refine thenE_n ?_
                  refine W_ret ?_
                  refine thenE_r ?_
                  refine ret1 rfl rfl ?_
                  first | (exact ⟨rfl, hE⟩) | (exact (bneE hg86 (hr66.det1 hr50)).elim) | (exact absurd (hr66.det1 hr50) hp86) | (exact absurd (hr66.det1 hr50) (of_decide_eq_false hg86)) | (exact (bneE hg86 (hr66.det2 hr50)).elim) | (exact absurd (hr66.det2 hr50) hp86) | (exact absurd (hr66.det2 hr50) (of_decide_eq_false hg86)) | (exact (bneE hg86 (hr66.det3 hr50)).elim) | (exact absurd (hr66.det3 hr50) hp86) | (exact absurd (hr66.det3 hr50) (of_decide_eq_false hg86)) | (exact (tfX hg86).elim) | (exact (decF hg86).elim) | (exfalso; omega)
                · have hg86 := not_false hg87
                  refine W_skip ?_
                  refine thenE_n ?_
                  refine W_seq ?_
                  refine W_seq ?_
                  refine W_region ?_
                  refine WL_q rfl (ev_move rfl) ?_
                  refine WL_q rfl (ev_move rfl) ?_
                  refine WL_m rfl (ev_call rfl (toIntS_spec _ _ m _ hm (by omega) (by omega))) ?_
                  rintro _ w90 ⟨a90, rfl, hF90, hE90⟩
                  have hz90 := hE90.size
                  replace hE := hE.trans hE90
                  replace hA := hA.ext hE90
                  replace hB := hB.ext hE90
                  replace hm := hm.ext hE90
                  replace hl := hl.ext hE90
                  replace hB4 := hB4.ext hE90
                  replace hB5 := hB5.ext hE90
                  replace hF43 := hF43.ext hE90
                  replace hN43 := hN43.ext hE90
                  replace hF45 := hF45.ext hE90
                  replace hN45 := hN45.ext hE90
                  replace hF47 := hF47.ext hE90
                  replace hI47 := hI47.ext hE90
                  replace hF49 := hF49.ext hE90
                  replace hI49 := hI49.ext hE90
                  replace hx50 := hx50.ext hE90
                  replace hF54 := hF54.ext hE90
                  replace hN54 := hN54.ext hE90
                  replace hB12 := hB12.ext hE90
                  replace hF56 := hF56.ext hE90
                  replace hN56 := hN56.ext hE90
                  replace hB13 := hB13.ext hE90
                  replace hF58 := hF58.ext hE90
                  replace hI58 := hI58.ext hE90
                  replace hF60 := hF60.ext hE90
                  replace hI60 := hI60.ext hE90
                  replace hO66 := hO66.ext hE90
                  replace hF80 := hF80.ext hE90
                  replace hN80 := hN80.ext hE90
                  replace hF85 := hF85.ext hE90
                  replace hN85 := hN85.ext hE90
                  have hI90 := hF90.is
                  refine WL_m rfl (ev_call rfl (eqIntS_spec _ _ _ _ m m _ hI58 hI90 (by omega))) ?_
                  rintro _ w91 ⟨rfl, hE91⟩
                  have hz91 := hE91.size
                  replace hE := hE.trans hE91
                  replace hA := hA.ext hE91
                  replace hB := hB.ext hE91
                  replace hm := hm.ext hE91
                  replace hl := hl.ext hE91
                  replace hB4 := hB4.ext hE91
                  replace hB5 := hB5.ext hE91
                  replace hF43 := hF43.ext hE91
                  replace hN43 := hN43.ext hE91
                  replace hF45 := hF45.ext hE91
                  replace hN45 := hN45.ext hE91
                  replace hF47 := hF47.ext hE91
                  replace hI47 := hI47.ext hE91
                  replace hF49 := hF49.ext hE91
                  replace hI49 := hI49.ext hE91
                  replace hx50 := hx50.ext hE91
                  replace hF54 := hF54.ext hE91
                  replace hN54 := hN54.ext hE91
                  replace hB12 := hB12.ext hE91
                  replace hF56 := hF56.ext hE91
                  replace hN56 := hN56.ext hE91
                  replace hB13 := hB13.ext hE91
                  replace hF58 := hF58.ext hE91
                  replace hI58 := hI58.ext hE91
                  replace hF60 := hF60.ext hE91
                  replace hI60 := hI60.ext hE91
                  replace hO66 := hO66.ext hE91
                  replace hF80 := hF80.ext hE91
                  replace hN80 := hN80.ext hE91
                  replace hF85 := hF85.ext hE91
                  replace hN85 := hN85.ext hE91
                  replace hF90 := hF90.ext hE91
                  replace hI90 := hI90.ext hE91
                  refine WL_q rfl (ev_not rfl) ?_
                  refine WL_nil ?_
                  refine thenE_n ?_
                  refine W_cond rfl (fun hg92 => ?_) (fun hg92 => ?_)
                  · have hg91 := not_true hg92
                    refine W_seq ?_
                    refine W_region ?_
                    refine WL_q rfl (ev_assign rfl) ?_
                    refine WL_nil ?_
                    refine thenE_n ?_
                    refine W_ret ?_
                    refine thenE_r ?_
                    refine ret1 rfl rfl ?_
                    first | (exact ⟨rfl, hE⟩) | (exact (bneE hg91 (hr66.det1 hr50)).elim) | (exact absurd (hr66.det1 hr50) hp91) | (exact absurd (hr66.det1 hr50) (of_decide_eq_false hg91)) | (exact (bneE hg91 (hr66.det2 hr50)).elim) | (exact absurd (hr66.det2 hr50) hp91) | (exact absurd (hr66.det2 hr50) (of_decide_eq_false hg91)) | (exact (bneE hg91 (hr66.det3 hr50)).elim) | (exact absurd (hr66.det3 hr50) hp91) | (exact absurd (hr66.det3 hr50) (of_decide_eq_false hg91)) | (exact (tfX hg91).elim) | (exact (decF hg91).elim) | (exfalso; omega)
                  · have hg91 := not_false hg92
                    refine W_skip ?_
                    refine thenE_n ?_
                    refine W_seq ?_
                    refine W_seq ?_
                    refine W_region ?_
                    refine WL_q rfl (ev_move rfl) ?_
                    refine WL_q rfl (ev_move rfl) ?_
                    refine WL_m rfl (ev_call rfl (toIntSS_spec _ _ l _ hl (by omega) (by omega))) ?_
                    rintro _ w95 ⟨a95, rfl, hF95, hE95⟩
                    have hz95 := hE95.size
                    replace hE := hE.trans hE95
                    replace hA := hA.ext hE95
                    replace hB := hB.ext hE95
                    replace hm := hm.ext hE95
                    replace hl := hl.ext hE95
                    replace hB4 := hB4.ext hE95
                    replace hB5 := hB5.ext hE95
                    replace hF43 := hF43.ext hE95
                    replace hN43 := hN43.ext hE95
                    replace hF45 := hF45.ext hE95
                    replace hN45 := hN45.ext hE95
                    replace hF47 := hF47.ext hE95
                    replace hI47 := hI47.ext hE95
                    replace hF49 := hF49.ext hE95
                    replace hI49 := hI49.ext hE95
                    replace hx50 := hx50.ext hE95
                    replace hF54 := hF54.ext hE95
                    replace hN54 := hN54.ext hE95
                    replace hB12 := hB12.ext hE95
                    replace hF56 := hF56.ext hE95
                    replace hN56 := hN56.ext hE95
                    replace hB13 := hB13.ext hE95
                    replace hF58 := hF58.ext hE95
                    replace hI58 := hI58.ext hE95
                    replace hF60 := hF60.ext hE95
                    replace hI60 := hI60.ext hE95
                    replace hO66 := hO66.ext hE95
                    replace hF80 := hF80.ext hE95
                    replace hN80 := hN80.ext hE95
                    replace hF85 := hF85.ext hE95
                    replace hN85 := hN85.ext hE95
                    replace hF90 := hF90.ext hE95
                    replace hI90 := hI90.ext hE95
                    have hI95 := hF95.is
                    refine WL_m rfl (ev_call rfl (eqIntSS_spec _ _ _ _ l l _ hI60 hI95 (by omega))) ?_
                    rintro _ w96 ⟨rfl, hE96⟩
                    have hz96 := hE96.size
                    replace hE := hE.trans hE96
                    replace hA := hA.ext hE96
                    replace hB := hB.ext hE96
                    replace hm := hm.ext hE96
                    replace hl := hl.ext hE96
                    replace hB4 := hB4.ext hE96
                    replace hB5 := hB5.ext hE96
                    replace hF43 := hF43.ext hE96
                    replace hN43 := hN43.ext hE96
                    replace hF45 := hF45.ext hE96
                    replace hN45 := hN45.ext hE96
                    replace hF47 := hF47.ext hE96
                    replace hI47 := hI47.ext hE96
                    replace hF49 := hF49.ext hE96
                    replace hI49 := hI49.ext hE96
                    replace hx50 := hx50.ext hE96
                    replace hF54 := hF54.ext hE96
                    replace hN54 := hN54.ext hE96
                    replace hB12 := hB12.ext hE96
                    replace hF56 := hF56.ext hE96
                    replace hN56 := hN56.ext hE96
                    replace hB13 := hB13.ext hE96
                    replace hF58 := hF58.ext hE96
                    replace hI58 := hI58.ext hE96
                    replace hF60 := hF60.ext hE96
                    replace hI60 := hI60.ext hE96
                    replace hO66 := hO66.ext hE96
                    replace hF80 := hF80.ext hE96
                    replace hN80 := hN80.ext hE96
                    replace hF85 := hF85.ext hE96
                    replace hN85 := hN85.ext hE96
                    replace hF90 := hF90.ext hE96
                    replace hI90 := hI90.ext hE96
                    replace hF95 := hF95.ext hE96
                    replace hI95 := hI95.ext hE96
                    refine WL_q rfl (ev_not rfl) ?_
                    refine WL_nil ?_
                    refine thenE_n ?_
                    refine W_cond rfl (fun hg97 => ?_) (fun hg97 => ?_)
                    · have hg96 := not_true hg97
                      refine W_seq ?_
                      refine W_region ?_
                      refine WL_q rfl (ev_assign rfl) ?_
                      refine WL_nil ?_
                      refine thenE_n ?_
                      refine W_ret ?_
                      refine thenE_r ?_
                      refine ret1 rfl rfl ?_
                      first | (exact ⟨rfl, hE⟩) | (exact (bneE hg96 (hr66.det1 hr50)).elim) | (exact absurd (hr66.det1 hr50) hp96) | (exact absurd (hr66.det1 hr50) (of_decide_eq_false hg96)) | (exact (bneE hg96 (hr66.det2 hr50)).elim) | (exact absurd (hr66.det2 hr50) hp96) | (exact absurd (hr66.det2 hr50) (of_decide_eq_false hg96)) | (exact (bneE hg96 (hr66.det3 hr50)).elim) | (exact absurd (hr66.det3 hr50) hp96) | (exact absurd (hr66.det3 hr50) (of_decide_eq_false hg96)) | (exact (tfX hg96).elim) | (exact (decF hg96).elim) | (exfalso; omega)
                    · have hg96 := not_false hg97
                      refine W_skip ?_
                      refine thenE_n ?_
                      refine W_seq ?_
                      refine W_region ?_
                      refine WL_q rfl (ev_assign rfl) ?_
                      refine WL_nil ?_
                      refine thenE_n ?_
                      refine W_seq ?_
                      refine W_region ?_
                      refine WL_q rfl (ev_loads st31 sz31 rfl (cellsB hB12) rfl) ?_
                      refine WL_q rfl (ev_move rfl) ?_
                      refine WL_m rfl (ev_call rfl (markNetwork_spec _ A _ _ hF54 (by omega) (by omega) (by omega))) ?_
                      rintro _ w100 ⟨r100, rfl, hr100, hK100⟩
                      have hz100 := hK100.size
                      replace hE := hE.mrk hK100 (by omega)
                      replace hA := hA.mrk hK100 (by omega)
                      replace hB := hB.mrk hK100 (by omega)
                      replace hm := hm.mrk hK100 (by omega)
                      replace hl := hl.mrk hK100 (by omega)
                      replace hB4 := hB4.mrk hK100 (by omega)
                      replace hB5 := hB5.mrk hK100 (by omega)
                      replace hF43 := hF43.mrk hK100 (by omega)
                      replace hN43 := hN43.mrk hK100 (by omega)
                      replace hF45 := hF45.mrk hK100 (by omega)
                      replace hN45 := hN45.mrk hK100 (by omega)
                      replace hF47 := hF47.mrk hK100 (by omega)
                      replace hI47 := hI47.mrk hK100 (by omega)
                      replace hF49 := hF49.mrk hK100 (by omega)
                      replace hI49 := hI49.mrk hK100 (by omega)
                      replace hx50 := hx50.mrk hK100 (by omega)
                      replace hB12 := hB12.mrk hK100 (by omega)
                      replace hF56 := hF56.mrk hK100 (by omega)
                      replace hN56 := hN56.mrk hK100 (by omega)
                      replace hB13 := hB13.mrk hK100 (by omega)
                      replace hF58 := hF58.mrk hK100 (by omega)
                      replace hI58 := hI58.mrk hK100 (by omega)
                      replace hF60 := hF60.mrk hK100 (by omega)
                      replace hI60 := hI60.mrk hK100 (by omega)
                      replace hO66 := hO66.mrk hK100 (by omega)
                      replace hF80 := hF80.mrk hK100 (by omega)
                      replace hN80 := hN80.mrk hK100 (by omega)
                      replace hF85 := hF85.mrk hK100 (by omega)
                      replace hN85 := hN85.mrk hK100 (by omega)
                      replace hF90 := hF90.mrk hK100 (by omega)
                      replace hI90 := hI90.mrk hK100 (by omega)
                      replace hF95 := hF95.mrk hK100 (by omega)
                      replace hI95 := hI95.mrk hK100 (by omega)
                      refine WL_q rfl (ev_assign rfl) ?_
                      refine WL_nil ?_
                      refine thenE_n ?_
                      refine W_seq ?_
                      refine W_region ?_
                      refine WL_q rfl (ev_loads st31 sz31 rfl (cellsB hB13) rfl) ?_
                      refine WL_q rfl (ev_move rfl) ?_
                      refine WL_m rfl (ev_call rfl (markNetwork_spec _ B _ _ hF56 (by omega) (by omega) (by omega))) ?_
                      rintro _ w103 ⟨r103, rfl, hr103, hK103⟩
                      have hz103 := hK103.size
                      replace hE := hE.mrk hK103 (by omega)
                      replace hA := hA.mrk hK103 (by omega)
                      replace hB := hB.mrk hK103 (by omega)
                      replace hm := hm.mrk hK103 (by omega)
                      replace hl := hl.mrk hK103 (by omega)
                      replace hB4 := hB4.mrk hK103 (by omega)
                      replace hB5 := hB5.mrk hK103 (by omega)
                      replace hF43 := hF43.mrk hK103 (by omega)
                      replace hN43 := hN43.mrk hK103 (by omega)
                      replace hF45 := hF45.mrk hK103 (by omega)
                      replace hN45 := hN45.mrk hK103 (by omega)
                      replace hF47 := hF47.mrk hK103 (by omega)
                      replace hI47 := hI47.mrk hK103 (by omega)
                      replace hF49 := hF49.mrk hK103 (by omega)
                      replace hI49 := hI49.mrk hK103 (by omega)
                      replace hx50 := hx50.mrk hK103 (by omega)
                      replace hB12 := hB12.mrk hK103 (by omega)
                      replace hB13 := hB13.mrk hK103 (by omega)
                      replace hF58 := hF58.mrk hK103 (by omega)
                      replace hI58 := hI58.mrk hK103 (by omega)
                      replace hF60 := hF60.mrk hK103 (by omega)
                      replace hI60 := hI60.mrk hK103 (by omega)
                      replace hO66 := hO66.mrk hK103 (by omega)
                      replace hF80 := hF80.mrk hK103 (by omega)
                      replace hN80 := hN80.mrk hK103 (by omega)
                      replace hF85 := hF85.mrk hK103 (by omega)
                      replace hN85 := hN85.mrk hK103 (by omega)
                      replace hF90 := hF90.mrk hK103 (by omega)
                      replace hI90 := hI90.mrk hK103 (by omega)
                      replace hF95 := hF95.mrk hK103 (by omega)
                      replace hI95 := hI95.mrk hK103 (by omega)
                      refine WL_q rfl (ev_assign rfl) ?_
                      refine WL_nil ?_
                      refine thenE_n ?_
                      refine W_seq ?_
                      refine W_region ?_
                      refine WL_q rfl (ev_move rfl) ?_
                      refine WL_q rfl (ev_move rfl) ?_
                      refine WL_m rfl (ev_call rfl (markIntS_arg hF58 (by omega) (by omega))) ?_
                      rintro _ w106 ⟨rfl, hK106⟩
                      have hz106 := hK106.size
                      replace hE := hE.mrk hK106 (by omega)
                      replace hA := hA.mrk hK106 (by omega)
                      replace hB := hB.mrk hK106 (by omega)
                      replace hm := hm.mrk hK106 (by omega)
                      replace hl := hl.mrk hK106 (by omega)
                      replace hB4 := hB4.mrk hK106 (by omega)
                      replace hB5 := hB5.mrk hK106 (by omega)
                      replace hF43 := hF43.mrk hK106 (by omega)
                      replace hN43 := hN43.mrk hK106 (by omega)
                      replace hF45 := hF45.mrk hK106 (by omega)
                      replace hN45 := hN45.mrk hK106 (by omega)
                      replace hF47 := hF47.mrk hK106 (by omega)
                      replace hI47 := hI47.mrk hK106 (by omega)
                      replace hF49 := hF49.mrk hK106 (by omega)
                      replace hI49 := hI49.mrk hK106 (by omega)
                      replace hx50 := hx50.mrk hK106 (by omega)
                      replace hB12 := hB12.mrk hK106 (by omega)
                      replace hB13 := hB13.mrk hK106 (by omega)
                      replace hF60 := hF60.mrk hK106 (by omega)
                      replace hI60 := hI60.mrk hK106 (by omega)
                      replace hO66 := hO66.mrk hK106 (by omega)
                      replace hF80 := hF80.mrk hK106 (by omega)
                      replace hN80 := hN80.mrk hK106 (by omega)
                      replace hF85 := hF85.mrk hK106 (by omega)
                      replace hN85 := hN85.mrk hK106 (by omega)
                      replace hF90 := hF90.mrk hK106 (by omega)
                      replace hI90 := hI90.mrk hK106 (by omega)
                      replace hF95 := hF95.mrk hK106 (by omega)
                      replace hI95 := hI95.mrk hK106 (by omega)
                      refine WL_q rfl (ev_assign rfl) ?_
                      refine WL_nil ?_
                      refine thenE_n ?_
                      refine W_seq ?_
                      refine W_region ?_
                      refine WL_q rfl (ev_move rfl) ?_
                      refine WL_q rfl (ev_move rfl) ?_
                      refine WL_m rfl (ev_call rfl (markIntSS_arg hF60 (by omega) (by omega))) ?_
                      rintro _ w109 ⟨r109, rfl, hr109, hK109⟩
                      have hz109 := hK109.size
                      replace hE := hE.mrk hK109 (by omega)
                      replace hA := hA.mrk hK109 (by omega)
                      replace hB := hB.mrk hK109 (by omega)
                      replace hm := hm.mrk hK109 (by omega)
                      replace hl := hl.mrk hK109 (by omega)
                      replace hB4 := hB4.mrk hK109 (by omega)
                      replace hB5 := hB5.mrk hK109 (by omega)
                      replace hF43 := hF43.mrk hK109 (by omega)
                      replace hN43 := hN43.mrk hK109 (by omega)
                      replace hF45 := hF45.mrk hK109 (by omega)
                      replace hN45 := hN45.mrk hK109 (by omega)
                      replace hF47 := hF47.mrk hK109 (by omega)
                      replace hI47 := hI47.mrk hK109 (by omega)
                      replace hF49 := hF49.mrk hK109 (by omega)
                      replace hI49 := hI49.mrk hK109 (by omega)
                      replace hx50 := hx50.mrk hK109 (by omega)
                      replace hB12 := hB12.mrk hK109 (by omega)
                      replace hB13 := hB13.mrk hK109 (by omega)
                      replace hO66 := hO66.mrk hK109 (by omega)
                      replace hF80 := hF80.mrk hK109 (by omega)
                      replace hN80 := hN80.mrk hK109 (by omega)
                      replace hF85 := hF85.mrk hK109 (by omega)
                      replace hN85 := hN85.mrk hK109 (by omega)
                      replace hF90 := hF90.mrk hK109 (by omega)
                      replace hI90 := hI90.mrk hK109 (by omega)
                      replace hF95 := hF95.mrk hK109 (by omega)
                      replace hI95 := hI95.mrk hK109 (by omega)
                      refine WL_q rfl (ev_assign rfl) ?_
                      refine WL_nil ?_
                      refine thenE_n ?_
                      refine W_seq ?_
                      refine W_seq ?_
                      refine W_region ?_
                      refine WL_q rfl (ev_move rfl) ?_
                      refine WL_q rfl (ev_lss rfl rfl) ?_
                      refine WL_q rfl (ev_move rfl) ?_
                      refine WL_splitv (t := 112) rfl (fun hg111 => ?_) (fun hg111 => ?_)
                      · have hp111 := of_decide_eq_true hg111
                        refine WL_no rfl rfl hg111 rfl ?_
                        refine WL_no rfl rfl hg111 rfl ?_
                        refine WL_no rfl rfl hg111 rfl ?_
                        refine WL_no rfl rfl hg111 rfl ?_
                        refine WL_q rfl (ev_pick_t rfl hg111 rfl) ?_
                        refine WL_q rfl (ev_move rfl) ?_
                        refine WL_no rfl rfl rfl rfl ?_
                        refine WL_no rfl rfl rfl rfl ?_
                        refine WL_no rfl rfl rfl rfl ?_
                        refine WL_q rfl (ev_pick_t rfl rfl rfl) ?_
                        refine WL_nil ?_
                        refine thenE_n ?_
                        refine W_cond_t rfl ?_
                        refine W_seq ?_
                        refine W_region ?_
                        refine WL_q rfl (ev_assign rfl) ?_
                        refine WL_nil ?_
                        refine thenE_n ?_
                        refine W_ret ?_
                        refine thenE_r ?_
                        refine ret1 rfl rfl ?_
                        first | (exact ⟨rfl, hE⟩) | (exact (bneE hg111 (hr66.det1 hr50)).elim) | (exact absurd (hr66.det1 hr50) hp111) | (exact absurd (hr66.det1 hr50) (of_decide_eq_false hg111)) | (exact (bneE hg111 (hr66.det2 hr50)).elim) | (exact absurd (hr66.det2 hr50) hp111) | (exact absurd (hr66.det2 hr50) (of_decide_eq_false hg111)) | (exact (bneE hg111 (hr66.det3 hr50)).elim) | (exact absurd (hr66.det3 hr50) hp111) | (exact absurd (hr66.det3 hr50) (of_decide_eq_false hg111)) | (exact (tfX hg111).elim) | (exact (decF hg111).elim) | (exfalso; omega)
                      · have hp111 := of_decide_eq_false hg111
                        refine WL_qg rfl rfl hg111 rfl (ev_move rfl) ?_
                        refine WL_qg rfl rfl hg111 rfl (ev_move rfl) ?_
                        refine WL_mg rfl rfl hg111 rfl (ev_call rfl (eqIntSS_spec _ _ _ _ y66 y50 _ (hO66.is) hx50 (by omega))) ?_
                        rintro _ w115 ⟨rfl, hE115⟩
                        have hz115 := hE115.size
                        replace hE := hE.trans hE115
                        replace hA := hA.ext hE115
                        replace hB := hB.ext hE115
                        replace hm := hm.ext hE115
                        replace hl := hl.ext hE115
                        replace hB4 := hB4.ext hE115
                        replace hB5 := hB5.ext hE115
                        replace hF43 := hF43.ext hE115
                        replace hN43 := hN43.ext hE115
                        replace hF45 := hF45.ext hE115
                        replace hN45 := hN45.ext hE115
                        replace hF47 := hF47.ext hE115
                        replace hI47 := hI47.ext hE115
                        replace hF49 := hF49.ext hE115
                        replace hI49 := hI49.ext hE115
                        replace hx50 := hx50.ext hE115
                        replace hB12 := hB12.ext hE115
                        replace hB13 := hB13.ext hE115
                        replace hO66 := hO66.ext hE115
                        replace hF80 := hF80.ext hE115
                        replace hN80 := hN80.ext hE115
                        replace hF85 := hF85.ext hE115
                        replace hN85 := hN85.ext hE115
                        replace hF90 := hF90.ext hE115
                        replace hI90 := hI90.ext hE115
                        replace hF95 := hF95.ext hE115
                        replace hI95 := hI95.ext hE115
                        refine WL_qg rfl rfl hg111 rfl (ev_not rfl) ?_
                        refine WL_q rfl (ev_pick_f rfl hg111 rfl) ?_
                        refine WL_q rfl (ev_move rfl) ?_
                        refine WL_splitv (t := 118) rfl (fun hg116 => ?_) (fun hg116 => ?_)
                        · have hg115 := not_true hg116
                          refine WL_no rfl rfl hg116 rfl ?_
                          refine WL_no rfl rfl hg116 rfl ?_
                          refine WL_no rfl rfl hg116 rfl ?_
                          refine WL_q rfl (ev_pick_t rfl hg116 rfl) ?_
                          refine WL_nil ?_
                          refine thenE_n ?_
                          refine W_cond_t rfl ?_
                          refine W_seq ?_
                          refine W_region ?_
                          refine WL_q rfl (ev_assign rfl) ?_
                          refine WL_nil ?_
                          refine thenE_n ?_
                          refine W_ret ?_
                          refine thenE_r ?_
                          refine ret1 rfl rfl ?_
                          first | (exact ⟨rfl, hE⟩) | (exact (bneE hg115 (hr66.det1 hr50)).elim) | (exact absurd (hr66.det1 hr50) hp115) | (exact absurd (hr66.det1 hr50) (of_decide_eq_false hg115)) | (exact (bneE hg115 (hr66.det2 hr50)).elim) | (exact absurd (hr66.det2 hr50) hp115) | (exact absurd (hr66.det2 hr50) (of_decide_eq_false hg115)) | (exact (bneE hg115 (hr66.det3 hr50)).elim) | (exact absurd (hr66.det3 hr50) hp115) | (exact absurd (hr66.det3 hr50) (of_decide_eq_false hg115)) | (exact (tfX hg115).elim) | (exact (decF hg115).elim) | (exfalso; omega)
                        · have hg115 := not_false hg116
                          refine WL_qg rfl rfl hg116 rfl (ev_move rfl) ?_
                          refine WL_qg rfl rfl hg116 rfl (ev_move rfl) ?_
                          refine WL_qg rfl rfl hg116 rfl (ev_neq_b Try.underlying4 rfl rfl) ?_
                          refine WL_q rfl (ev_pick_f rfl hg116 rfl) ?_
                          refine WL_nil ?_
                          refine thenE_n ?_
                          refine W_cond rfl (fun hg121 => ?_) (fun hg121 => ?_)
                          · refine W_seq ?_
                            refine W_region ?_
                            refine WL_q rfl (ev_assign rfl) ?_
                            refine WL_nil ?_
                            refine thenE_n ?_
                            refine W_ret ?_
                            refine thenE_r ?_
                            refine ret1 rfl rfl ?_
                            first | (exact ⟨rfl, hE⟩) | (exact (bneE hg121 (hr66.det1 hr50)).elim) | (exact absurd (hr66.det1 hr50) hp121) | (exact absurd (hr66.det1 hr50) (of_decide_eq_false hg121)) | (exact (bneE hg121 (hr66.det2 hr50)).elim) | (exact absurd (hr66.det2 hr50) hp121) | (exact absurd (hr66.det2 hr50) (of_decide_eq_false hg121)) | (exact (bneE hg121 (hr66.det3 hr50)).elim) | (exact absurd (hr66.det3 hr50) hp121) | (exact absurd (hr66.det3 hr50) (of_decide_eq_false hg121)) | (exact (tfX hg121).elim) | (exact (decF hg121).elim) | (exfalso; omega)
                          · refine W_skip ?_
                            refine thenE_n ?_
                            refine W_seq ?_
                            refine W_region ?_
                            refine WL_q rfl (ev_assign rfl) ?_
                            refine WL_nil ?_
                            refine thenE_n ?_
                            refine W_seq ?_
                            refine W_region ?_
                            refine WL_q rfl (ev_move rfl) ?_
                            refine WL_q rfl (ev_move rfl) ?_
                            refine WL_m rfl (ev_call rfl (markIntSS_rows _ _ _ y66 _ _ hO66 (by omega) (by omega) (by omega) (by omega))) ?_
                            rintro _ w125 ⟨rfl, hO125, hK125⟩
                            have hz125 := hK125.size
                            have hR125 := hK125
                            replace hE := hE.rg hR125 (by omega)
                            replace hA := hA.rg hR125 (by omega)
                            replace hB := hB.rg hR125 (by omega)
                            replace hm := hm.rg hR125 (by omega)
                            replace hl := hl.rg hR125 (by omega)
                            replace hB4 := hB4.rg hR125 (by omega)
                            replace hB5 := hB5.rg hR125 (by omega)
                            replace hF43 := hF43.rg hR125 (by omega)
                            replace hN43 := hN43.rg hR125 (by omega)
                            replace hF45 := hF45.rg hR125 (by omega)
                            replace hN45 := hN45.rg hR125 (by omega)
                            replace hF47 := hF47.rg hR125 (by omega)
                            replace hI47 := hI47.rg hR125 (by omega)
                            replace hF49 := hF49.rg hR125 (by omega)
                            replace hI49 := hI49.rg hR125 (by omega)
                            replace hx50 := hx50.rg hR125 (by omega)
                            replace hB12 := hB12.rg hR125 (by omega)
                            replace hB13 := hB13.rg hR125 (by omega)
                            replace hF80 := hF80.rg hR125 (by omega)
                            replace hN80 := hN80.rg hR125 (by omega)
                            replace hF85 := hF85.rg hR125 (by omega)
                            replace hN85 := hN85.rg hR125 (by omega)
                            replace hF90 := hF90.rg hR125 (by omega)
                            replace hI90 := hI90.rg hR125 (by omega)
                            replace hF95 := hF95.rg hR125 (by omega)
                            replace hI95 := hI95.rg hR125 (by omega)
                            replace hO66 := hO125
                            refine WL_q rfl (ev_assign rfl) ?_
                            refine WL_nil ?_
                            refine thenE_n ?_
                            refine W_seq ?_
                            refine W_region ?_
                            refine WL_q rfl (ev_assign rfl) ?_
                            refine WL_nil ?_
                            refine thenE_n ?_
                            refine W_seq ?_
                            refine W_region ?_
                            refine WL_q rfl (ev_move rfl) ?_
                            refine WL_q rfl (ev_move rfl) ?_
                            refine WL_m rfl (ev_call rfl (heldIntSS_spec _ _ y66 _ _ hO66.is rfl (by omega) (by omega) (by omega))) ?_
                            rintro _ w128 ⟨rfl, hE128⟩
                            have hz128 := hE128.size
                            replace hE := hE.trans hE128
                            replace hA := hA.ext hE128
                            replace hB := hB.ext hE128
                            replace hm := hm.ext hE128
                            replace hl := hl.ext hE128
                            replace hB4 := hB4.ext hE128
                            replace hB5 := hB5.ext hE128
                            replace hF43 := hF43.ext hE128
                            replace hN43 := hN43.ext hE128
                            replace hF45 := hF45.ext hE128
                            replace hN45 := hN45.ext hE128
                            replace hF47 := hF47.ext hE128
                            replace hI47 := hI47.ext hE128
                            replace hF49 := hF49.ext hE128
                            replace hI49 := hI49.ext hE128
                            replace hx50 := hx50.ext hE128
                            replace hB12 := hB12.ext hE128
                            replace hB13 := hB13.ext hE128
                            replace hO66 := hO66.ext hE128
                            replace hF80 := hF80.ext hE128
                            replace hN80 := hN80.ext hE128
                            replace hF85 := hF85.ext hE128
                            replace hN85 := hN85.ext hE128
                            replace hF90 := hF90.ext hE128
                            replace hI90 := hI90.ext hE128
                            replace hF95 := hF95.ext hE128
                            replace hI95 := hI95.ext hE128
                            refine WL_q rfl (ev_assign rfl) ?_
                            refine WL_nil ?_
                            refine thenE_n ?_
                            refine W_seq ?_
                            refine W_seq ?_
                            refine W_region ?_
                            refine WL_q rfl (ev_move rfl) ?_
                            refine WL_q rfl (ev_lss rfl rfl) ?_
                            refine WL_nil ?_
                            refine thenE_n ?_
                            refine W_cond rfl (fun hg130 => ?_) (fun hg130 => ?_)
                            · have hp130 := of_decide_eq_true hg130
                              refine W_seq ?_
                              refine W_region ?_
                              refine WL_q rfl (ev_assign rfl) ?_
                              refine WL_nil ?_
                              refine thenE_n ?_
                              refine W_ret ?_
                              refine thenE_r ?_
                              refine ret1 rfl rfl ?_
                              first | (exact ⟨rfl, hE⟩) | (exact (bneE hg130 (hr66.det1 hr50)).elim) | (exact absurd (hr66.det1 hr50) hp130) | (exact absurd (hr66.det1 hr50) (of_decide_eq_false hg130)) | (exact (bneE hg130 (hr66.det2 hr50)).elim) | (exact absurd (hr66.det2 hr50) hp130) | (exact absurd (hr66.det2 hr50) (of_decide_eq_false hg130)) | (exact (bneE hg130 (hr66.det3 hr50)).elim) | (exact absurd (hr66.det3 hr50) hp130) | (exact absurd (hr66.det3 hr50) (of_decide_eq_false hg130)) | (exact (tfX hg130).elim) | (exact (decF hg130).elim) | (exfalso; omega)
                            · have hp130 := of_decide_eq_false hg130
                              refine W_skip ?_
                              refine thenE_n ?_
                              refine W_seq ?_
                              refine W_seq ?_
                              refine W_region ?_
                              refine WL_q rfl (ev_move rfl) ?_
                              refine WL_q rfl (ev_move rfl) ?_
                              refine WL_q rfl (ev_neq rfl rfl) ?_
                              refine WL_nil ?_
                              refine thenE_n ?_
                              refine W_cond rfl (fun hg133 => ?_) (fun hg133 => ?_)
                              · have hp133 := of_decide_eq_true hg133
                                refine W_seq ?_
                                refine W_region ?_
                                refine WL_q rfl (ev_assign rfl) ?_
                                refine WL_nil ?_
                                refine thenE_n ?_
                                refine W_ret ?_
                                refine thenE_r ?_
                                refine ret1 rfl rfl ?_
                                first | (exact ⟨rfl, hE⟩) | (exact (bneE hg133 (hr66.det1 hr50)).elim) | (exact absurd (hr66.det1 hr50) hp133) | (exact absurd (hr66.det1 hr50) (of_decide_eq_false hg133)) | (exact (bneE hg133 (hr66.det2 hr50)).elim) | (exact absurd (hr66.det2 hr50) hp133) | (exact absurd (hr66.det2 hr50) (of_decide_eq_false hg133)) | (exact (bneE hg133 (hr66.det3 hr50)).elim) | (exact absurd (hr66.det3 hr50) hp133) | (exact absurd (hr66.det3 hr50) (of_decide_eq_false hg133)) | (exact (tfX hg133).elim) | (exact (decF hg133).elim) | (exfalso; omega)
                              · have hp133 := of_decide_eq_false hg133
                                refine W_skip ?_
                                refine thenE_n ?_
                                refine W_seq ?_
                                refine W_drawE [(0, true), (2, true), (4, true), (6, true), (1, false), (3, false), (5, false), (7, false), (8, false), (9, true), (10, true), (11, true), (12, true), (13, true)] mixed (by kernel_rfl) rfl (by kernel_rfl) ?_
                                intro wd44 hEd44 hzd44
                                replace hE := hE.trans hEd44
                                replace hA := hA.ext hEd44
                                replace hB := hB.ext hEd44
                                replace hm := hm.ext hEd44
                                replace hl := hl.ext hEd44
                                replace hB4 := hB4.ext hEd44
                                replace hB5 := hB5.ext hEd44
                                replace hF43 := hF43.ext hEd44
                                replace hN43 := hN43.ext hEd44
                                replace hF45 := hF45.ext hEd44
                                replace hN45 := hN45.ext hEd44
                                replace hF47 := hF47.ext hEd44
                                replace hI47 := hI47.ext hEd44
                                replace hF49 := hF49.ext hEd44
                                replace hI49 := hI49.ext hEd44
                                replace hx50 := hx50.ext hEd44
                                replace hB12 := hB12.ext hEd44
                                replace hB13 := hB13.ext hEd44
                                replace hO66 := hO66.ext hEd44
                                replace hF80 := hF80.ext hEd44
                                replace hN80 := hN80.ext hEd44
                                replace hF85 := hF85.ext hEd44
                                replace hN85 := hN85.ext hEd44
                                replace hF90 := hF90.ext hEd44
                                replace hI90 := hI90.ext hEd44
                                replace hF95 := hF95.ext hEd44
                                replace hI95 := hI95.ext hEd44
                                have hDd44 := Ext.refl wd44
                                refine PW_q rfl rfl (fun wq hq => ev_loads st25 sz25 rfl (cellsB (hq.blk hB4)) rfl) ?_
                                refine PW_q rfl rfl (fun wq hq => ev_loads st25 sz25 rfl (cellsB (hq.blk hB5)) rfl) ?_
                                refine PW_q rfl rfl (fun wq hq => ev_move rfl) ?_
                                refine PW_q rfl rfl (fun wq hq => ev_move rfl) ?_
                                refine PW_m rfl rfl (ev_call rfl (toNetwork_spec _ A _ hA (by omega) (by omega))) ?_
                                rintro _ w136 ⟨h136, rfl, hF136, hE136⟩
                                have hz136 := hE136.size
                                replace hE := hE.trans hE136
                                replace hDd44 := hDd44.trans hE136
                                have hN136 := hF136.is
                                refine ⟨hDd44, ?_⟩
                                have hA_3 := hA.ext hDd44
                                have hB_3 := hB.ext hDd44
                                have hm_3 := hm.ext hDd44
                                have hl_3 := hl.ext hDd44
                                have hB4_3 := hB4.ext hDd44
                                have hB5_3 := hB5.ext hDd44
                                have hF43_3 := hF43.ext hDd44
                                have hN43_3 := hN43.ext hDd44
                                have hF45_3 := hF45.ext hDd44
                                have hN45_3 := hN45.ext hDd44
                                have hF47_3 := hF47.ext hDd44
                                have hI47_3 := hI47.ext hDd44
                                have hF49_3 := hF49.ext hDd44
                                have hI49_3 := hI49.ext hDd44
                                have hx50_3 := hx50.ext hDd44
                                have hB12_3 := hB12.ext hDd44
                                have hB13_3 := hB13.ext hDd44
                                have hO66_3 := hO66.ext hDd44
                                have hF80_3 := hF80.ext hDd44
                                have hN80_3 := hN80.ext hDd44
                                have hF85_3 := hF85.ext hDd44
                                have hN85_3 := hN85.ext hDd44
                                have hF90_3 := hF90.ext hDd44
                                have hI90_3 := hI90.ext hDd44
                                have hF95_3 := hF95.ext hDd44
                                have hI95_3 := hI95.ext hDd44
                                refine PW_m rfl rfl (ev_call rfl (toNetwork_spec _ B _ hB_3 (by omega) (by omega))) ?_
                                rintro _ w138 ⟨h138, rfl, hF138, hE138⟩
                                have hz138 := hE138.size
                                replace hE := hE.trans hE138
                                replace hDd44 := hDd44.trans hE138
                                replace hF136 := hF136.ext hE138
                                replace hN136 := hN136.ext hE138
                                have hN138 := hF138.is
                                refine ⟨hDd44, ?_⟩
                                have hA_5 := hA.ext hDd44
                                have hB_5 := hB.ext hDd44
                                have hm_5 := hm.ext hDd44
                                have hl_5 := hl.ext hDd44
                                have hB4_5 := hB4.ext hDd44
                                have hB5_5 := hB5.ext hDd44
                                have hF43_5 := hF43.ext hDd44
                                have hN43_5 := hN43.ext hDd44
                                have hF45_5 := hF45.ext hDd44
                                have hN45_5 := hN45.ext hDd44
                                have hF47_5 := hF47.ext hDd44
                                have hI47_5 := hI47.ext hDd44
                                have hF49_5 := hF49.ext hDd44
                                have hI49_5 := hI49.ext hDd44
                                have hx50_5 := hx50.ext hDd44
                                have hB12_5 := hB12.ext hDd44
                                have hB13_5 := hB13.ext hDd44
                                have hO66_5 := hO66.ext hDd44
                                have hF80_5 := hF80.ext hDd44
                                have hN80_5 := hN80.ext hDd44
                                have hF85_5 := hF85.ext hDd44
                                have hN85_5 := hN85.ext hDd44
                                have hF90_5 := hF90.ext hDd44
                                have hI90_5 := hI90.ext hDd44
                                have hF95_5 := hF95.ext hDd44
                                have hI95_5 := hI95.ext hDd44
                                refine PW_m rfl rfl (ev_call rfl (toIntS_spec _ _ m _ hm_5 (by omega) (by omega))) ?_
                                rintro _ w140 ⟨a140, rfl, hF140, hE140⟩
                                have hz140 := hE140.size
                                replace hE := hE.trans hE140
                                replace hDd44 := hDd44.trans hE140
                                replace hF136 := hF136.ext hE140
                                replace hN136 := hN136.ext hE140
                                replace hF138 := hF138.ext hE140
                                replace hN138 := hN138.ext hE140
                                have hI140 := hF140.is
                                refine ⟨hDd44, ?_⟩
                                have hA_7 := hA.ext hDd44
                                have hB_7 := hB.ext hDd44
                                have hm_7 := hm.ext hDd44
                                have hl_7 := hl.ext hDd44
                                have hB4_7 := hB4.ext hDd44
                                have hB5_7 := hB5.ext hDd44
                                have hF43_7 := hF43.ext hDd44
                                have hN43_7 := hN43.ext hDd44
                                have hF45_7 := hF45.ext hDd44
                                have hN45_7 := hN45.ext hDd44
                                have hF47_7 := hF47.ext hDd44
                                have hI47_7 := hI47.ext hDd44
                                have hF49_7 := hF49.ext hDd44
                                have hI49_7 := hI49.ext hDd44
                                have hx50_7 := hx50.ext hDd44
                                have hB12_7 := hB12.ext hDd44
                                have hB13_7 := hB13.ext hDd44
                                have hO66_7 := hO66.ext hDd44
                                have hF80_7 := hF80.ext hDd44
                                have hN80_7 := hN80.ext hDd44
                                have hF85_7 := hF85.ext hDd44
                                have hN85_7 := hN85.ext hDd44
                                have hF90_7 := hF90.ext hDd44
                                have hI90_7 := hI90.ext hDd44
                                have hF95_7 := hF95.ext hDd44
                                have hI95_7 := hI95.ext hDd44
                                refine PW_m rfl rfl (ev_call rfl (toIntSS_spec _ _ l _ hl_7 (by omega) (by omega))) ?_
                                rintro _ w142 ⟨a142, rfl, hF142, hE142⟩
                                have hz142 := hE142.size
                                replace hE := hE.trans hE142
                                replace hDd44 := hDd44.trans hE142
                                replace hF136 := hF136.ext hE142
                                replace hN136 := hN136.ext hE142
                                replace hF138 := hF138.ext hE142
                                replace hN138 := hN138.ext hE142
                                replace hF140 := hF140.ext hE142
                                replace hI140 := hI140.ext hE142
                                have hI142 := hF142.is
                                refine ⟨hDd44, ?_⟩
                                have hA_8 := hA.ext hDd44
                                have hB_8 := hB.ext hDd44
                                have hm_8 := hm.ext hDd44
                                have hl_8 := hl.ext hDd44
                                have hB4_8 := hB4.ext hDd44
                                have hB5_8 := hB5.ext hDd44
                                have hF43_8 := hF43.ext hDd44
                                have hN43_8 := hN43.ext hDd44
                                have hF45_8 := hF45.ext hDd44
                                have hN45_8 := hN45.ext hDd44
                                have hF47_8 := hF47.ext hDd44
                                have hI47_8 := hI47.ext hDd44
                                have hF49_8 := hF49.ext hDd44
                                have hI49_8 := hI49.ext hDd44
                                have hx50_8 := hx50.ext hDd44
                                have hB12_8 := hB12.ext hDd44
                                have hB13_8 := hB13.ext hDd44
                                have hO66_8 := hO66.ext hDd44
                                have hF80_8 := hF80.ext hDd44
                                have hN80_8 := hN80.ext hDd44
                                have hF85_8 := hF85.ext hDd44
                                have hN85_8 := hN85.ext hDd44
                                have hF90_8 := hF90.ext hDd44
                                have hI90_8 := hI90.ext hDd44
                                have hF95_8 := hF95.ext hDd44
                                have hI95_8 := hI95.ext hDd44
                                refine PW_m rfl rfl (ev_call rfl (PullPorts_spec _ A _ B _ _ m _ _ l _ hN136 (by omega) (by omega) hN138 (by omega) (by omega) hI140 (by omega) (by omega) hI142 (by omega) (by omega))) ?_
                                rintro _ w143 ⟨a143, c143, y143, q143, rfl, hr143, hO143, ⟨hl143, hm143, ht143⟩, hE143⟩
                                have hz143 := hE143.size
                                replace hE := hE.trans hE143
                                replace hDd44 := hDd44.trans hE143
                                replace hF136 := hF136.ext hE143
                                replace hN136 := hN136.ext hE143
                                replace hF138 := hF138.ext hE143
                                replace hN138 := hN138.ext hE143
                                replace hF140 := hF140.ext hE143
                                replace hI140 := hI140.ext hE143
                                replace hF142 := hF142.ext hE143
                                replace hI142 := hI142.ext hE143
                                refine ⟨hDd44, ?_⟩
                                refine PW_q rfl rfl (fun wq hq => ev_move rfl) ?_
                                refine PW_q rfl rfl (fun wq hq => ev_extract rfl rfl) ?_
                                refine PW_q rfl rfl (fun wq hq => ev_extract rfl rfl) ?_
                                refine PW_q rfl rfl (fun wq hq => ev_assign rfl) ?_
                                refine PW_q rfl rfl (fun wq hq => ev_assign rfl) ?_
                                replace hA := hA.ext hDd44
                                replace hB := hB.ext hDd44
                                replace hm := hm.ext hDd44
                                replace hl := hl.ext hDd44
                                replace hB4 := hB4.ext hDd44
                                replace hB5 := hB5.ext hDd44
                                replace hF43 := hF43.ext hDd44
                                replace hN43 := hN43.ext hDd44
                                replace hF45 := hF45.ext hDd44
                                replace hN45 := hN45.ext hDd44
                                replace hF47 := hF47.ext hDd44
                                replace hI47 := hI47.ext hDd44
                                replace hF49 := hF49.ext hDd44
                                replace hI49 := hI49.ext hDd44
                                replace hx50 := hx50.ext hDd44
                                replace hB12 := hB12.ext hDd44
                                replace hB13 := hB13.ext hDd44
                                replace hO66 := hO66.ext hDd44
                                replace hF80 := hF80.ext hDd44
                                replace hN80 := hN80.ext hDd44
                                replace hF85 := hF85.ext hDd44
                                replace hN85 := hN85.ext hDd44
                                replace hF90 := hF90.ext hDd44
                                replace hI90 := hI90.ext hDd44
                                replace hF95 := hF95.ext hDd44
                                replace hI95 := hI95.ext hDd44
                                refine PW_nil ?_
                                refine thenE_n ?_
                                refine W_seq ?_
                                refine W_seq ?_
                                refine W_region ?_
                                refine WL_q rfl (ev_move rfl) ?_
                                refine WL_q rfl (ev_move rfl) ?_
                                refine WL_m rfl (ev_call rfl (eqIntSS_spec _ _ _ _ y143 y50 _ (hO143.is) hx50 (by omega))) ?_
                                rintro _ w148 ⟨rfl, hE148⟩
                                have hz148 := hE148.size
                                replace hE := hE.trans hE148
                                replace hA := hA.ext hE148
                                replace hB := hB.ext hE148
                                replace hm := hm.ext hE148
                                replace hl := hl.ext hE148
                                replace hB4 := hB4.ext hE148
                                replace hB5 := hB5.ext hE148
                                replace hF43 := hF43.ext hE148
                                replace hN43 := hN43.ext hE148
                                replace hF45 := hF45.ext hE148
                                replace hN45 := hN45.ext hE148
                                replace hF47 := hF47.ext hE148
                                replace hI47 := hI47.ext hE148
                                replace hF49 := hF49.ext hE148
                                replace hI49 := hI49.ext hE148
                                replace hx50 := hx50.ext hE148
                                replace hB12 := hB12.ext hE148
                                replace hB13 := hB13.ext hE148
                                replace hO66 := hO66.ext hE148
                                replace hF80 := hF80.ext hE148
                                replace hN80 := hN80.ext hE148
                                replace hF85 := hF85.ext hE148
                                replace hN85 := hN85.ext hE148
                                replace hF90 := hF90.ext hE148
                                replace hI90 := hI90.ext hE148
                                replace hF95 := hF95.ext hE148
                                replace hI95 := hI95.ext hE148
                                replace hF136 := hF136.ext hE148
                                replace hN136 := hN136.ext hE148
                                replace hF138 := hF138.ext hE148
                                replace hN138 := hN138.ext hE148
                                replace hF140 := hF140.ext hE148
                                replace hI140 := hI140.ext hE148
                                replace hF142 := hF142.ext hE148
                                replace hI142 := hI142.ext hE148
                                replace hO143 := hO143.ext hE148
                                refine WL_q rfl (ev_not rfl) ?_
                                refine WL_q rfl (ev_move rfl) ?_
                                refine WL_splitv (t := 150) rfl (fun hg149 => ?_) (fun hg149 => ?_)
                                · have hg148 := not_true hg149
                                  refine WL_no rfl rfl hg149 rfl ?_
                                  refine WL_no rfl rfl hg149 rfl ?_
                                  refine WL_no rfl rfl hg149 rfl ?_
                                  refine WL_q rfl (ev_pick_t rfl hg149 rfl) ?_
                                  refine WL_nil ?_
                                  refine thenE_n ?_
                                  refine W_cond_t rfl ?_
                                  refine W_seq ?_
                                  refine W_region ?_
                                  refine WL_q rfl (ev_assign rfl) ?_
                                  refine WL_nil ?_
                                  refine thenE_n ?_
                                  refine W_ret ?_
                                  refine thenE_r ?_
                                  refine ret1 rfl rfl ?_
                                  first | (exact ⟨rfl, hE⟩) | (exact (bneE hg148 (hr143.det1 hr50)).elim) | (exact absurd (hr143.det1 hr50) hp148) | (exact absurd (hr143.det1 hr50) (of_decide_eq_false hg148)) | (exact (bneE hg148 (hr143.det2 hr50)).elim) | (exact absurd (hr143.det2 hr50) hp148) | (exact absurd (hr143.det2 hr50) (of_decide_eq_false hg148)) | (exact (bneE hg148 (hr143.det3 hr50)).elim) | (exact absurd (hr143.det3 hr50) hp148) | (exact absurd (hr143.det3 hr50) (of_decide_eq_false hg148)) | (exact (bneE hg148 (hr66.det1 hr50)).elim) | (exact absurd (hr66.det1 hr50) hp148) | (exact absurd (hr66.det1 hr50) (of_decide_eq_false hg148)) | (exact (bneE hg148 (hr66.det2 hr50)).elim) | (exact absurd (hr66.det2 hr50) hp148) | (exact absurd (hr66.det2 hr50) (of_decide_eq_false hg148)) | (exact (bneE hg148 (hr66.det3 hr50)).elim) | (exact absurd (hr66.det3 hr50) hp148) | (exact absurd (hr66.det3 hr50) (of_decide_eq_false hg148)) | (exact (tfX hg148).elim) | (exact (decF hg148).elim) | (exfalso; omega)
                                · have hg148 := not_false hg149
                                  refine WL_qg rfl rfl hg149 rfl (ev_move rfl) ?_
                                  refine WL_qg rfl rfl hg149 rfl (ev_move rfl) ?_
                                  refine WL_qg rfl rfl hg149 rfl (ev_neq_b Try.underlying4 rfl rfl) ?_
                                  refine WL_q rfl (ev_pick_f rfl hg149 rfl) ?_
                                  refine WL_nil ?_
                                  refine thenE_n ?_
                                  refine W_cond rfl (fun hg153 => ?_) (fun hg153 => ?_)
                                  · refine W_seq ?_
                                    refine W_region ?_
                                    refine WL_q rfl (ev_assign rfl) ?_
                                    refine WL_nil ?_
                                    refine thenE_n ?_
                                    refine W_ret ?_
                                    refine thenE_r ?_
                                    refine ret1 rfl rfl ?_
                                    first | (exact ⟨rfl, hE⟩) | (exact (bneE hg153 (hr143.det1 hr50)).elim) | (exact absurd (hr143.det1 hr50) hp153) | (exact absurd (hr143.det1 hr50) (of_decide_eq_false hg153)) | (exact (bneE hg153 (hr143.det2 hr50)).elim) | (exact absurd (hr143.det2 hr50) hp153) | (exact absurd (hr143.det2 hr50) (of_decide_eq_false hg153)) | (exact (bneE hg153 (hr143.det3 hr50)).elim) | (exact absurd (hr143.det3 hr50) hp153) | (exact absurd (hr143.det3 hr50) (of_decide_eq_false hg153)) | (exact (bneE hg153 (hr66.det1 hr50)).elim) | (exact absurd (hr66.det1 hr50) hp153) | (exact absurd (hr66.det1 hr50) (of_decide_eq_false hg153)) | (exact (bneE hg153 (hr66.det2 hr50)).elim) | (exact absurd (hr66.det2 hr50) hp153) | (exact absurd (hr66.det2 hr50) (of_decide_eq_false hg153)) | (exact (bneE hg153 (hr66.det3 hr50)).elim) | (exact absurd (hr66.det3 hr50) hp153) | (exact absurd (hr66.det3 hr50) (of_decide_eq_false hg153)) | (exact (tfX hg153).elim) | (exact (decF hg153).elim) | (exfalso; omega)
                                  · refine W_skip ?_
                                    refine thenE_n ?_
                                    refine W_seq ?_
                                    refine W_region ?_
                                    refine WL_q rfl (ev_assign rfl) ?_
                                    refine WL_nil ?_
                                    refine thenE_n ?_
                                    refine W_seq ?_
                                    refine W_region ?_
                                    refine WL_q rfl (ev_move rfl) ?_
                                    refine WL_q rfl (ev_move rfl) ?_
                                    refine WL_m rfl (ev_call rfl (heldIntSS_spec _ _ y66 _ _ hO66.is rfl (by omega) (by omega) (by omega))) ?_
                                    rintro _ w157 ⟨rfl, hE157⟩
                                    have hz157 := hE157.size
                                    replace hE := hE.trans hE157
                                    replace hA := hA.ext hE157
                                    replace hB := hB.ext hE157
                                    replace hm := hm.ext hE157
                                    replace hl := hl.ext hE157
                                    replace hB4 := hB4.ext hE157
                                    replace hB5 := hB5.ext hE157
                                    replace hF43 := hF43.ext hE157
                                    replace hN43 := hN43.ext hE157
                                    replace hF45 := hF45.ext hE157
                                    replace hN45 := hN45.ext hE157
                                    replace hF47 := hF47.ext hE157
                                    replace hI47 := hI47.ext hE157
                                    replace hF49 := hF49.ext hE157
                                    replace hI49 := hI49.ext hE157
                                    replace hx50 := hx50.ext hE157
                                    replace hB12 := hB12.ext hE157
                                    replace hB13 := hB13.ext hE157
                                    replace hO66 := hO66.ext hE157
                                    replace hF80 := hF80.ext hE157
                                    replace hN80 := hN80.ext hE157
                                    replace hF85 := hF85.ext hE157
                                    replace hN85 := hN85.ext hE157
                                    replace hF90 := hF90.ext hE157
                                    replace hI90 := hI90.ext hE157
                                    replace hF95 := hF95.ext hE157
                                    replace hI95 := hI95.ext hE157
                                    replace hF136 := hF136.ext hE157
                                    replace hN136 := hN136.ext hE157
                                    replace hF138 := hF138.ext hE157
                                    replace hN138 := hN138.ext hE157
                                    replace hF140 := hF140.ext hE157
                                    replace hI140 := hI140.ext hE157
                                    replace hF142 := hF142.ext hE157
                                    replace hI142 := hI142.ext hE157
                                    replace hO143 := hO143.ext hE157
                                    refine WL_q rfl (ev_assign rfl) ?_
                                    refine WL_nil ?_
                                    refine thenE_n ?_
                                    refine W_seq ?_
                                    refine W_seq ?_
                                    refine W_region ?_
                                    refine WL_q rfl (ev_move rfl) ?_
                                    refine WL_q rfl (ev_lss rfl rfl) ?_
                                    refine WL_nil ?_
                                    refine thenE_n ?_
                                    refine W_cond rfl (fun hg159 => ?_) (fun hg159 => ?_)
                                    · have hp159 := of_decide_eq_true hg159
                                      refine W_seq ?_
                                      refine W_region ?_
                                      refine WL_q rfl (ev_assign rfl) ?_
                                      refine WL_nil ?_
                                      refine thenE_n ?_
                                      refine W_ret ?_
                                      refine thenE_r ?_
                                      refine ret1 rfl rfl ?_
                                      first | (exact ⟨rfl, hE⟩) | (exact (bneE hg159 (hr143.det1 hr50)).elim) | (exact absurd (hr143.det1 hr50) hp159) | (exact absurd (hr143.det1 hr50) (of_decide_eq_false hg159)) | (exact (bneE hg159 (hr143.det2 hr50)).elim) | (exact absurd (hr143.det2 hr50) hp159) | (exact absurd (hr143.det2 hr50) (of_decide_eq_false hg159)) | (exact (bneE hg159 (hr143.det3 hr50)).elim) | (exact absurd (hr143.det3 hr50) hp159) | (exact absurd (hr143.det3 hr50) (of_decide_eq_false hg159)) | (exact (bneE hg159 (hr66.det1 hr50)).elim) | (exact absurd (hr66.det1 hr50) hp159) | (exact absurd (hr66.det1 hr50) (of_decide_eq_false hg159)) | (exact (bneE hg159 (hr66.det2 hr50)).elim) | (exact absurd (hr66.det2 hr50) hp159) | (exact absurd (hr66.det2 hr50) (of_decide_eq_false hg159)) | (exact (bneE hg159 (hr66.det3 hr50)).elim) | (exact absurd (hr66.det3 hr50) hp159) | (exact absurd (hr66.det3 hr50) (of_decide_eq_false hg159)) | (exact (tfX hg159).elim) | (exact (decF hg159).elim) | (exfalso; omega)
                                    · have hp159 := of_decide_eq_false hg159
                                      refine W_skip ?_
                                      refine thenE_n ?_
                                      refine W_seq ?_
                                      refine W_seq ?_
                                      refine W_region ?_
                                      refine WL_q rfl (ev_move rfl) ?_
                                      refine WL_q rfl (ev_move rfl) ?_
                                      refine WL_q rfl (ev_neq rfl rfl) ?_
                                      refine WL_nil ?_
                                      refine thenE_n ?_
                                      refine W_cond rfl (fun hg162 => ?_) (fun hg162 => ?_)
                                      · have hp162 := of_decide_eq_true hg162
                                        refine W_seq ?_
                                        refine W_region ?_
                                        refine WL_q rfl (ev_assign rfl) ?_
                                        refine WL_nil ?_
                                        refine thenE_n ?_
                                        refine W_ret ?_
                                        refine thenE_r ?_
                                        refine ret1 rfl rfl ?_
                                        first | (exact ⟨rfl, hE⟩) | (exact (bneE hg162 (hr143.det1 hr50)).elim) | (exact absurd (hr143.det1 hr50) hp162) | (exact absurd (hr143.det1 hr50) (of_decide_eq_false hg162)) | (exact (bneE hg162 (hr143.det2 hr50)).elim) | (exact absurd (hr143.det2 hr50) hp162) | (exact absurd (hr143.det2 hr50) (of_decide_eq_false hg162)) | (exact (bneE hg162 (hr143.det3 hr50)).elim) | (exact absurd (hr143.det3 hr50) hp162) | (exact absurd (hr143.det3 hr50) (of_decide_eq_false hg162)) | (exact (bneE hg162 (hr66.det1 hr50)).elim) | (exact absurd (hr66.det1 hr50) hp162) | (exact absurd (hr66.det1 hr50) (of_decide_eq_false hg162)) | (exact (bneE hg162 (hr66.det2 hr50)).elim) | (exact absurd (hr66.det2 hr50) hp162) | (exact absurd (hr66.det2 hr50) (of_decide_eq_false hg162)) | (exact (bneE hg162 (hr66.det3 hr50)).elim) | (exact absurd (hr66.det3 hr50) hp162) | (exact absurd (hr66.det3 hr50) (of_decide_eq_false hg162)) | (exact (tfX hg162).elim) | (exact (decF hg162).elim) | (exfalso; omega)
                                      · have hp162 := of_decide_eq_false hg162
                                        refine W_skip ?_
                                        refine thenE_n ?_
                                        refine W_seq ?_
                                        refine W_region ?_
                                        refine WL_q rfl (ev_assign rfl) ?_
                                        refine WL_nil ?_
                                        refine thenE_n ?_
                                        refine W_ret ?_
                                        refine ret1 rfl rfl ?_
                                        first | (exact ⟨rfl, hE⟩) | (exact (bneE hg162 (hr143.det1 hr50)).elim) | (exact absurd (hr143.det1 hr50) hp162) | (exact absurd (hr143.det1 hr50) (of_decide_eq_false hg162)) | (exact (bneE hg162 (hr143.det2 hr50)).elim) | (exact absurd (hr143.det2 hr50) hp162) | (exact absurd (hr143.det2 hr50) (of_decide_eq_false hg162)) | (exact (bneE hg162 (hr143.det3 hr50)).elim) | (exact absurd (hr143.det3 hr50) hp162) | (exact absurd (hr143.det3 hr50) (of_decide_eq_false hg162)) | (exact (bneE hg162 (hr66.det1 hr50)).elim) | (exact absurd (hr66.det1 hr50) hp162) | (exact absurd (hr66.det1 hr50) (of_decide_eq_false hg162)) | (exact (bneE hg162 (hr66.det2 hr50)).elim) | (exact absurd (hr66.det2 hr50) hp162) | (exact absurd (hr66.det2 hr50) (of_decide_eq_false hg162)) | (exact (bneE hg162 (hr66.det3 hr50)).elim) | (exact absurd (hr66.det3 hr50) hp162) | (exact absurd (hr66.det3 hr50) (of_decide_eq_false hg162)) | (exact (tfX hg162).elim) | (exact (decF hg162).elim) | (exfalso; omega)

end Go.Proofs.Ytjnkkadbfigmpaa
