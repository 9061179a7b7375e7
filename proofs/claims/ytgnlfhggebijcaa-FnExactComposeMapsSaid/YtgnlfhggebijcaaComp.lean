/- Contracts of ComposeMaps, PullNodes, PushNodes and FibresOf, of the program and of the reference; the walks of their laws. -/
import Derived.Test.YtgnlfhggebijcaaDist
import Derived.Test.YtgnlfhggebijcaaCovering
import Derived.Test.YtgnlfhggebijcaaMark2
namespace Go.Proofs.Ytgnlfhggebijcaa
open Go Go.RowKit

theorem fibsN_mem (m : List Int) (n v : Nat) : ∀ r ∈ fibsN m n v, ∀ x ∈ r, 0 ≤ x ∧ x < (v : Int) := by
  induction v with
  | zero => intro r hr x hx; simp [fibsN] at hr; rw [hr.2] at hx; simp at hx
  | succ v ih =>
    intro r hr x hx
    unfold fibsN at hr
    split at hr
    · rcases List.mem_or_eq_of_mem_set hr with h | h
      · have := ih r h x hx; omega
      · subst h
        rcases List.mem_append.1 hx with h | h
        · rename_i y _
          by_cases hb : y.toNat < (fibsN m n v).length
          · rw [getD_eq hb] at h; have := ih _ (List.getElem_mem hb) x h; omega
          · simp [List.getD, List.getElem?_eq_none (Nat.le_of_not_lt hb)] at h
        · simp at h; omega
    · have := ih r hr x hx; omega
theorem fibs_at {m : List Int} {n i j : Nat} (hi : i < (fibs m n).length) (hj : j < (fibs m n)[i].length) : 0 ≤ (fibs m n)[i][j] ∧ (fibs m n)[i][j].toNat < m.length := by
  have := fibsN_mem m n m.length _ (List.getElem_mem hi) _ (List.getElem_mem hj)
  unfold fibs at *
  omega
theorem fibs_row {m : List Int} {n i : Nat} (hi : i < (fibs m n).length) : (fibs m n)[i].length ≤ m.length := fibsN_row m n m.length _ (List.getElem_mem hi)
theorem onto_pos {m : List Int} {n i : Nat} (h : onto m n = true) (hi : i < (fibs m n).length) : 0 < (fibs m n)[i].length := by
  unfold onto at h
  rw [Bool.not_eq_true', List.any_eq_false] at h
  have := h _ (List.getElem_mem hi)
  simp at this
  exact List.length_pos_iff.2 this
theorem fibs_sum {m : List Int} {n : Nat} (hm : m.length ≤ 40) (hn : n ≤ 40) : sumL (fibs m n) ≤ 1600 := by
  have h1 : sumL (fibs m n) ≤ (fibs m n).length * 40 := sumL_bd fun x hx => by
    obtain ⟨i, hi, rfl⟩ := List.mem_iff_getElem.1 hx
    have := fibs_row hi; omega
  have h2 := fibs_len m n
  omega
/-- The number that all nodes of each fibre have. -/
def pushL (l m : List Int) (n : Nat) : List Int := (fibs m n).map fun r => l.getD (r.getD 0 0).toNat 0
theorem pushL_len (l m : List Int) (n : Nat) : (pushL l m n).length = n := by simp [pushL, fibs_len]
theorem pushL_at {l m : List Int} {n i : Nat} (hi : i < (fibs m n).length) (h0 : 0 < (fibs m n)[i].length) (h : ((fibs m n)[i][0]).toNat < l.length) (h2 : i < (pushL l m n).length) : (pushL l m n)[i] = l[((fibs m n)[i][0]).toNat] := by
  simp only [pushL, List.getElem_map]
  rw [getD_eq h0, getD_eq h]
def PushR (l : List Int) (r : List Int) : Prop := ∀ j, j < r.length → l.getD (r.getD j 0).toNat 0 = l.getD (r.getD 0 0).toNat 0
def PushV (l m : List Int) (n : Nat) : Prop := ∀ i (_h : i < (fibs m n).length), PushR l (fibs m n)[i]
theorem pushR_at {l r : List Int} {j : Nat} (hj : j < r.length) (h1 : r[j].toNat < l.length) (h0 : r[0].toNat < l.length) : l.getD (r.getD j 0).toNat 0 = l.getD (r.getD 0 0).toNat 0 ↔ l[r[j].toNat] = l[r[0].toNat] := by
  rw [getD_eq hj, getD_eq (show 0 < r.length by omega), getD_eq h1, getD_eq h0]
theorem pushR_no {l r : List Int} {j : Nat} (hr : PushR l r) (hj : j < r.length) {h1 : r[j].toNat < l.length} {h0 : r[0].toNat < l.length} (h : l[r[j].toNat] ≠ l[r[0].toNat]) : False := h ((pushR_at hj h1 h0).1 (hr j hj))
theorem IsPM.to {A B : Net} {m : List Int} (h : IsPM A B m) {i : Nat} (hi : i < m.length) : 0 ≤ m[i] ∧ m[i].toNat < B.ends.length := by
  have := allR_true.1 h.rng _ (List.getElem_mem hi); omega

set_option maxRecDepth 100000 in
theorem coThrough_spec {lol hil : Nat} (al : Option Addr) (cl : Nat) (l : List Int) {lom him : Nat} (am : Option Addr) (cm : Nat) (m : List Int) (w : World) (hl : Ints lol hil w al cl l) (hhil : hil ≤ w.heap.size) (hnl : l.length ≤ 1048576) (hm : Ints lom him w am cm m) (hhim : him ≤ w.heap.size) (hnm : m.length ≤ 1048576) (hr : ∀ i (h : i < m.length), 0 ≤ m[i] ∧ m[i].toNat < l.length) :
    Fn Try.prog 80 #[.slice al l.length cl, .slice am m.length cm] w (fun o9 w' => ∃ a' c', o9 = .slice a' (thr l m).length c' ∧ Own w.heap.size w' 3 1 a' (thr l m).length c' ((thr l m).map VI) ∧ Ext w w') := by
  have htl := thr_len l m
  have hE := Ext.refl w
  refine Fn_of Try.func80 rfl rfl (by kernel_rfl) rfl ?_
  refine W_seq ?_
  refine W_region ?_
  refine WL_q rfl (ev_assign rfl) ?_
  refine WL_nil ?_
  refine thenE_n ?_
  refine W_seq ?_
  refine W_region ?_
  refine WL_q rfl (ev_assign rfl) ?_
  refine WL_nil ?_
  refine thenE_n ?_
  refine W_seq ?_
  refine W_seq ?_
  refine W_region ?_
  refine WL_q rfl (ev_move rfl) ?_
  refine WL_q rfl (ev_len Try.underlying23 rfl) ?_
  refine WL_q rfl (ev_move rfl) ?_
  refine WL_nil ?_
  refine thenE_n ?_
  refine W_block ?_
  refine W_loopC (G := Nat × Option Addr × Nat) [(0, _), (8, _), (9, _)] ((Subs.c rfl (Subs.c rfl (Subs.c rfl Subs.n)))) (fun ⟨i, a, c⟩ => [(5, .slice a i c), (10, VI (i : Int))]) (fun ⟨i, a, c⟩ w' => Ext w w' ∧ i ≤ m.length ∧ OwnH w.heap.size w'.heap.size 0 0 w' 3 1 a i c (((thr l m).take i).map VI)) (fun g => m.length - g.1) (0, none, 0) ((Subs.c rfl (Subs.c (lkI rfl (by omega)) Subs.n))) (⟨Ext.refl _, ⟨by omega, OwnH.nil⟩⟩) ?_
  rintro ⟨i, a, c⟩ wL0 ⟨hRL0, hi', hO⟩
  have hzL0 := hRL0.size
  replace hE := hE.trans hRL0
  replace hl := hl.ext hRL0
  replace hm := hm.ext hRL0
  refine W_seq ?_
  refine W_region ?_
  refine WL_q rfl (ev_lss rfl rfl) ?_
  refine WL_nil ?_
  refine thenE_n ?_
  refine W_seq ?_
  refine W_cond rfl (fun hg11 => ?_) (fun hg11 => ?_)
  · have hp11 := of_decide_eq_true hg11
    refine W_skip ?_
    refine thenE_n ?_
    refine W_seq ?_
    refine W_block ?_
    refine W_seq ?_
    refine W_region ?_
    have hlt : i < m.length := by omega
    have hrg := hr _ hlt
    have hr1 := hrg.1
    have hr2 := hrg.2
    refine WL_q rfl (ev_indexAddr Try.underlying23 sz3 rfl rfl (hm.isSome (by omega)) (by omega) (by omega)) ?_
    refine WL_q rfl (ev_load one3 rfl (hm.cell (i := i) (by omega))) ?_
    refine WL_q rfl (ev_assign rfl) ?_
    refine WL_nil ?_
    refine thenE_n ?_
    refine W_region ?_
    refine WL_q rfl (ev_move rfl) ?_
    refine WL_q rfl (ev_move rfl) ?_
    refine WL_q rfl (ev_move rfl) ?_
    refine WL_q rfl (ev_indexAddr Try.underlying23 sz3 rfl rfl (hl.isSome (by omega)) (by omega) (by omega)) ?_
    refine WL_q rfl (ev_load one3 rfl (hl.cell (i := m[i].toNat) (by omega))) ?_
    refine WL_m rfl (ev_lit1 Try.underlying23 el3 (by decide) (by decide) rfl rfl) ?_
    rintro _ w19 ⟨rfl, hN19⟩
    have hz19 := hN19.size
    replace hE := hE.trans hN19.ext
    replace hRL0 := hRL0.trans hN19.ext
    replace hl := hl.ext hN19.ext
    replace hm := hm.ext hN19.ext
    replace hO := hO.ext hN19.ext
    have hB19 := hN19.blk
    refine WL_m rfl (ev_appendT Try.underlying23 el3 rfl (by decide) rfl rfl hO (SAt.of_blk (cs := [_]) (ds := []) hB19) rfl (by simp [Value.oneCell']) (by omega) (by unfold maxLen; omega) (by omega)) ?_
    rintro _ w20 ⟨a20, c20, rfl, hO20, hK20, hQ20⟩
    have hz20 := hK20.size
    replace hE := hE.rg hK20 (by omega)
    replace hRL0 := hRL0.rg hK20 (by omega)
    replace hl := hl.rg hK20 (by omega)
    replace hm := hm.rg hK20 (by omega)
    replace hB19 := hB19.rg hK20 (by omega)
    replace hO := hO20
    replace hO := ownt_snocI hO
    refine WL_q rfl (ev_assign rfl) ?_
    refine WL_nil ?_
    refine blockE_n ?_
    refine thenE_n ?_
    refine W_region ?_
    refine WL_q rfl (ev_add rfl rfl (by omega)) ?_
    refine WL_q rfl (ev_move rfl) ?_
    refine WL_nil ?_
    refine thenE_n ?_
    exact ⟨(i + 1, a20, c20), (Subs.c rfl (Subs.c rfl (Subs.c rfl Subs.n))), (Subs.c rfl (Subs.c (lkI rfl (by omega)) Subs.n)), ⟨hRL0, ⟨by omega, (ownt_take hO (by omega) (thr_at hlt (h2 := by omega) (by omega))).up (Nat.le_refl _) (by omega)⟩⟩, by first | omega | (dsimp only; omega)⟩
  · have hp11 := of_decide_eq_false hg11
    refine W_exit ?_
    refine thenE_x ?_
    refine thenE_x ?_
    refine blockE_hit ?_
    refine thenE_n ?_
    refine W_seq ?_
    refine W_region ?_
    refine WL_q rfl (ev_move rfl) ?_
    refine WL_q rfl (ev_assign rfl) ?_
    refine WL_nil ?_
    refine thenE_n ?_
    refine W_ret ?_
    refine ret1 rfl rfl ?_
    have hi9 : i = (thr l m).length := by omega
    subst hi9
    exact ⟨_, _, rfl, by rw [List.take_length] at hO; exact hO.1.mono (by omega), hE⟩

set_option maxRecDepth 100000 in
theorem ComposeMaps_spec {loA hiA : Nat} (nA : NA) (A : Net) {loB hiB : Nat} (nB : NA) (B : Net) {loC hiC : Nat} (nC : NA) (C : Net) {lof hif : Nat} (af : Option Addr) (cf : Nat) (f : List Int) {log hig : Nat} (ag : Option Addr) (cg : Nat) (g : List Int) (w : World) (hA : IsNet loA hiA w nA A) (hhiA : hiA ≤ w.heap.size) (hnA : totN A ≤ 1048576) (hB : IsNet loB hiB w nB B) (hhiB : hiB ≤ w.heap.size) (hnB : totN B ≤ 1048576) (hC : IsNet loC hiC w nC C) (hhiC : hiC ≤ w.heap.size) (hnC : totN C ≤ 1048576) (hf : Ints lof hif w af cf f) (hhif : hif ≤ w.heap.size) (hnf : f.length ≤ 1048576) (hg : Ints log hig w ag cg g) (hhig : hig ≤ w.heap.size) (hng : g.length ≤ 1048576) :
    Fn Try.prog 40 #[netV nA A, netV nB B, netV nC C, .slice af f.length cf, .slice ag g.length cg] w (fun o9 w' => ∃ a' c' ys q, o9 = .tuple #[.slice a' ys.length c', VB q] ∧ RV [] (opt ((NOk A ∧ NOk B ∧ IsPM A B f) ∧ (NOk B ∧ NOk C ∧ IsPM B C g)) (thr g f)) ys q ∧ OwnH w.heap.size w'.heap.size 0 0 w' 3 1 a' ys.length c' (ys.map VI) ∧ ys.length ≤ 1048576 ∧ Ext w w') := by
  have hqA := totL_len A.ends
  have hmA : totL A.ends + A.ids.length + A.inputs.length ≤ 1048576 := hnA
  have hqB := totL_len B.ends
  have hmB : totL B.ends + B.ids.length + B.inputs.length ≤ 1048576 := hnB
  have hqC := totL_len C.ends
  have hmC : totL C.ends + C.ids.length + C.inputs.length ≤ 1048576 := hnC
  have htl := thr_len g f
  have hE := Ext.refl w
  refine Fn_of Try.func40 rfl rfl (by kernel_rfl) rfl ?_
  refine W_seq ?_
  refine W_region ?_
  refine WL_m rfl (ev_box rfl) ?_
  rintro _ w5 ⟨rfl, hN5⟩
  have hz5 := hN5.size
  replace hE := hE.trans hN5.ext
  replace hA := hA.ext hN5.ext
  replace hB := hB.ext hN5.ext
  replace hC := hC.ext hN5.ext
  replace hf := hf.ext hN5.ext
  replace hg := hg.ext hN5.ext
  have hB5 : Blk w5 _ _ [_, _, _] := hN5.blk
  refine WL_m rfl (ev_box rfl) ?_
  rintro _ w6 ⟨rfl, hN6⟩
  have hz6 := hN6.size
  replace hE := hE.trans hN6.ext
  replace hA := hA.ext hN6.ext
  replace hB := hB.ext hN6.ext
  replace hC := hC.ext hN6.ext
  replace hf := hf.ext hN6.ext
  replace hg := hg.ext hN6.ext
  replace hB5 := hB5.ext hN6.ext
  have hB6 : Blk w6 _ _ [_, _, _] := hN6.blk
  refine WL_m rfl (ev_box rfl) ?_
  rintro _ w7 ⟨rfl, hN7⟩
  have hz7 := hN7.size
  replace hE := hE.trans hN7.ext
  replace hA := hA.ext hN7.ext
  replace hB := hB.ext hN7.ext
  replace hC := hC.ext hN7.ext
  replace hf := hf.ext hN7.ext
  replace hg := hg.ext hN7.ext
  replace hB5 := hB5.ext hN7.ext
  replace hB6 := hB6.ext hN7.ext
  have hB7 : Blk w7 _ _ [_, _, _] := hN7.blk
  refine WL_q rfl (ev_assign rfl) ?_
  refine WL_q rfl (ev_assign rfl) ?_
  refine WL_nil ?_
  refine thenE_n ?_
  refine W_seq ?_
  refine W_seq ?_
  refine W_region ?_
  refine WL_q rfl (ev_loads st31 sz31 rfl (cellsB hB5) rfl) ?_
  refine WL_q rfl (ev_loads st31 sz31 rfl (cellsB hB6) rfl) ?_
  refine WL_q rfl (ev_move rfl) ?_
  refine WL_m rfl (ev_call rfl (mapOk_spec _ _ _ _ _ _ _ _ (by assumption) (by assumption) (by assumption) (by omega) (by omega) (by omega) (by omega) (by omega) (by omega))) ?_
  rintro _ w18 ⟨b18, rfl, hb18, hE18⟩
  have hz18 := hE18.size
  replace hE := hE.trans hE18
  replace hA := hA.ext hE18
  replace hB := hB.ext hE18
  replace hC := hC.ext hE18
  replace hf := hf.ext hE18
  replace hg := hg.ext hE18
  replace hB5 := hB5.ext hE18
  replace hB6 := hB6.ext hE18
  replace hB7 := hB7.ext hE18
  refine WL_q rfl (ev_not rfl) ?_
  refine WL_q rfl (ev_move rfl) ?_
  refine WL_splitv (t := 20) rfl (fun hg19 => ?_) (fun hg19 => ?_)
  · have hg18 := not_true hg19
    have hp18 := ttN hb18 hg18
    refine WL_no rfl rfl hg19 rfl ?_
    refine WL_no rfl rfl hg19 rfl ?_
    refine WL_no rfl rfl hg19 rfl ?_
    refine WL_no rfl rfl hg19 rfl ?_
    refine WL_no rfl rfl hg19 rfl ?_
    refine WL_q rfl (ev_pick_t rfl hg19 rfl) ?_
    refine WL_nil ?_
    refine thenE_n ?_
    refine W_cond_t rfl ?_
    refine W_seq ?_
    refine W_region ?_
    refine WL_q rfl (ev_assign rfl) ?_
    refine WL_q rfl (ev_assign rfl) ?_
    refine WL_nil ?_
    refine thenE_n ?_
    refine W_ret ?_
    refine thenE_r ?_
    refine ret2 rfl rfl rfl ?_
    first | (exact ⟨none, 0, [], _, rfl, .no (fun h => hp18 h.1), OwnH.nil, by simp, hE⟩) | (exact ⟨none, 0, [], _, rfl, .no (fun h => hp24 h.2), OwnH.nil, by simp, hE⟩) | (have hi9 : i = (thr g f).length := (by omega); subst hi9; exact ⟨_, _, _, _, rfl, .yes ⟨hp18, hp24⟩ rfl, by rw [List.take_length] at hO; exact hO.up (by omega) (Nat.le_refl _), by omega, hE⟩)
  · have hg18 := not_false hg19
    have hp18 := hb18.1 hg18
    refine WL_qg rfl rfl hg19 rfl (ev_loads st31 sz31 rfl (cellsB hB6) rfl) ?_
    refine WL_qg rfl rfl hg19 rfl (ev_loads st31 sz31 rfl (cellsB hB7) rfl) ?_
    refine WL_qg rfl rfl hg19 rfl (ev_move rfl) ?_
    refine WL_mg rfl rfl hg19 rfl (ev_call rfl (mapOk_spec _ _ _ _ _ _ _ _ (by assumption) (by assumption) (by assumption) (by omega) (by omega) (by omega) (by omega) (by omega) (by omega))) ?_
    rintro _ w24 ⟨b24, rfl, hb24, hE24⟩
    have hz24 := hE24.size
    replace hE := hE.trans hE24
    replace hA := hA.ext hE24
    replace hB := hB.ext hE24
    replace hC := hC.ext hE24
    replace hf := hf.ext hE24
    replace hg := hg.ext hE24
    replace hB5 := hB5.ext hE24
    replace hB6 := hB6.ext hE24
    replace hB7 := hB7.ext hE24
    refine WL_qg rfl rfl hg19 rfl (ev_not rfl) ?_
    refine WL_q rfl (ev_pick_f rfl hg19 rfl) ?_
    refine WL_nil ?_
    refine thenE_n ?_
    refine W_cond rfl (fun hg25 => ?_) (fun hg25 => ?_)
    · have hg24 := not_true hg25
      have hp24 := ttN hb24 hg24
      refine W_seq ?_
      refine W_region ?_
      refine WL_q rfl (ev_assign rfl) ?_
      refine WL_q rfl (ev_assign rfl) ?_
      refine WL_nil ?_
      refine thenE_n ?_
      refine W_ret ?_
      refine thenE_r ?_
      refine ret2 rfl rfl rfl ?_
      first | (exact ⟨none, 0, [], _, rfl, .no (fun h => hp18 h.1), OwnH.nil, by simp, hE⟩) | (exact ⟨none, 0, [], _, rfl, .no (fun h => hp24 h.2), OwnH.nil, by simp, hE⟩) | (have hi9 : i = (thr g f).length := (by omega); subst hi9; exact ⟨_, _, _, _, rfl, .yes ⟨hp18, hp24⟩ rfl, by rw [List.take_length] at hO; exact hO.up (by omega) (Nat.le_refl _), by omega, hE⟩)
    · have hg24 := not_false hg25
      have hp24 := hb24.1 hg24
      refine W_skip ?_
      refine thenE_n ?_
      refine W_seq ?_
      refine W_region ?_
      refine WL_q rfl (ev_assign rfl) ?_
      refine WL_nil ?_
      refine thenE_n ?_
      refine W_seq ?_
      refine W_seq ?_
      refine W_region ?_
      refine WL_q rfl (ev_move rfl) ?_
      refine WL_q rfl (ev_len Try.underlying23 rfl) ?_
      refine WL_q rfl (ev_move rfl) ?_
      refine WL_nil ?_
      refine thenE_n ?_
      refine W_block ?_
      refine W_loopC (G := Nat × Option Addr × Nat) [(4, _), (27, _), (28, _)] ((Subs.c rfl (Subs.c rfl (Subs.c rfl Subs.n)))) (fun ⟨i, a, c⟩ => [(12, .slice a i c), (29, VI (i : Int))]) (fun ⟨i, a, c⟩ w' => Ext w24 w' ∧ i ≤ f.length ∧ OwnH w24.heap.size w'.heap.size 0 0 w' 3 1 a i c (((thr g f).take i).map VI)) (fun g => f.length - g.1) (0, none, 0) ((Subs.c rfl (Subs.c (lkI rfl (by omega)) Subs.n))) (⟨Ext.refl _, ⟨by omega, OwnH.nil⟩⟩) ?_
      rintro ⟨i, a, c⟩ wL0 ⟨hRL0, hi', hO⟩
      have hzL0 := hRL0.size
      replace hE := hE.trans hRL0
      replace hA := hA.ext hRL0
      replace hB := hB.ext hRL0
      replace hC := hC.ext hRL0
      replace hf := hf.ext hRL0
      replace hg := hg.ext hRL0
      replace hB5 := hB5.ext hRL0
      replace hB6 := hB6.ext hRL0
      replace hB7 := hB7.ext hRL0
      refine W_seq ?_
      refine W_region ?_
      refine WL_q rfl (ev_lss rfl rfl) ?_
      refine WL_nil ?_
      refine thenE_n ?_
      refine W_seq ?_
      refine W_cond rfl (fun hg30 => ?_) (fun hg30 => ?_)
      · have hp30 := of_decide_eq_true hg30
        refine W_skip ?_
        refine thenE_n ?_
        refine W_seq ?_
        refine W_block ?_
        refine W_seq ?_
        refine W_region ?_
        have hlt : i < f.length := by omega
        have hrg := hp18.2.2.to hlt
        have hr1 := hrg.1
        have hr2 := hrg.2
        have hgl := hp24.2.2.len
        refine WL_q rfl (ev_indexAddr Try.underlying23 sz3 rfl rfl (hf.isSome (by omega)) (by omega) (by omega)) ?_
        refine WL_q rfl (ev_load one3 rfl (hf.cell (i := i) (by omega))) ?_
        refine WL_q rfl (ev_assign rfl) ?_
        refine WL_nil ?_
        refine thenE_n ?_
        refine W_region ?_
        refine WL_q rfl (ev_move rfl) ?_
        refine WL_q rfl (ev_move rfl) ?_
        refine WL_q rfl (ev_move rfl) ?_
        refine WL_q rfl (ev_indexAddr Try.underlying23 sz3 rfl rfl (hg.isSome (by omega)) (by omega) (by omega)) ?_
        refine WL_q rfl (ev_load one3 rfl (hg.cell (i := f[i].toNat) (by omega))) ?_
        refine WL_m rfl (ev_lit1 Try.underlying23 el3 (by decide) (by decide) rfl rfl) ?_
        rintro _ w38 ⟨rfl, hN38⟩
        have hz38 := hN38.size
        replace hE := hE.trans hN38.ext
        replace hRL0 := hRL0.trans hN38.ext
        replace hA := hA.ext hN38.ext
        replace hB := hB.ext hN38.ext
        replace hC := hC.ext hN38.ext
        replace hf := hf.ext hN38.ext
        replace hg := hg.ext hN38.ext
        replace hB5 := hB5.ext hN38.ext
        replace hB6 := hB6.ext hN38.ext
        replace hB7 := hB7.ext hN38.ext
        replace hO := hO.ext hN38.ext
        have hB38 := hN38.blk
        refine WL_m rfl (ev_appendT Try.underlying23 el3 rfl (by decide) rfl rfl hO (SAt.of_blk (cs := [_]) (ds := []) hB38) rfl (by simp [Value.oneCell']) (by omega) (by unfold maxLen; omega) (by omega)) ?_
        rintro _ w39 ⟨a39, c39, rfl, hO39, hK39, hQ39⟩
        have hz39 := hK39.size
        replace hE := hE.rg hK39 (by omega)
        replace hRL0 := hRL0.rg hK39 (by omega)
        replace hA := hA.rg hK39 (by omega)
        replace hB := hB.rg hK39 (by omega)
        replace hC := hC.rg hK39 (by omega)
        replace hf := hf.rg hK39 (by omega)
        replace hg := hg.rg hK39 (by omega)
        replace hB5 := hB5.rg hK39 (by omega)
        replace hB6 := hB6.rg hK39 (by omega)
        replace hB7 := hB7.rg hK39 (by omega)
        replace hB38 := hB38.rg hK39 (by omega)
        replace hO := hO39
        replace hO := ownt_snocI hO
        refine WL_q rfl (ev_assign rfl) ?_
        refine WL_nil ?_
        refine blockE_n ?_
        refine thenE_n ?_
        refine W_region ?_
        refine WL_q rfl (ev_add rfl rfl (by omega)) ?_
        refine WL_q rfl (ev_move rfl) ?_
        refine WL_nil ?_
        refine thenE_n ?_
        exact ⟨(i + 1, a39, c39), (Subs.c rfl (Subs.c rfl (Subs.c rfl Subs.n))), (Subs.c rfl (Subs.c (lkI rfl (by omega)) Subs.n)), ⟨hRL0, ⟨by omega, (ownt_take hO (by omega) (thr_at hlt (h2 := by omega) (by omega))).up (Nat.le_refl _) (by omega)⟩⟩, by first | omega | (dsimp only; omega)⟩
      · have hp30 := of_decide_eq_false hg30
        refine W_exit ?_
        refine thenE_x ?_
        refine thenE_x ?_
        refine blockE_hit ?_
        refine thenE_n ?_
        refine W_seq ?_
        refine W_region ?_
        refine WL_q rfl (ev_move rfl) ?_
        refine WL_q rfl (ev_assign rfl) ?_
        refine WL_q rfl (ev_assign rfl) ?_
        refine WL_nil ?_
        refine thenE_n ?_
        refine W_ret ?_
        refine ret2 rfl rfl rfl ?_
        first | (exact ⟨none, 0, [], _, rfl, .no (fun h => hp18 h.1), OwnH.nil, by simp, hE⟩) | (exact ⟨none, 0, [], _, rfl, .no (fun h => hp24 h.2), OwnH.nil, by simp, hE⟩) | (have hi9 : i = (thr g f).length := (by omega); subst hi9; exact ⟨_, _, _, _, rfl, .yes ⟨hp18, hp24⟩ rfl, by rw [List.take_length] at hO; exact hO.up (by omega) (Nat.le_refl _), by omega, hE⟩)

set_option maxRecDepth 100000 in
theorem sComposeMaps_spec {loA hiA : Nat} (nA : NA) (A : Net) {loB hiB : Nat} (nB : NA) (B : Net) {loC hiC : Nat} (nC : NA) (C : Net) {lof hif : Nat} (af : Option Addr) (cf : Nat) (f : List Int) {log hig : Nat} (ag : Option Addr) (cg : Nat) (g : List Int) (w : World) (hA : IsNet loA hiA w nA A) (hhiA : hiA ≤ w.heap.size) (hnA : totN A ≤ 1048576) (hB : IsNet loB hiB w nB B) (hhiB : hiB ≤ w.heap.size) (hnB : totN B ≤ 1048576) (hC : IsNet loC hiC w nC C) (hhiC : hiC ≤ w.heap.size) (hnC : totN C ≤ 1048576) (hf : Ints lof hif w af cf f) (hhif : hif ≤ w.heap.size) (hnf : f.length ≤ 1048576) (hg : Ints log hig w ag cg g) (hhig : hig ≤ w.heap.size) (hng : g.length ≤ 1048576) :
    Fn Try.prog 38 #[netV nA A, netV nB B, netV nC C, .slice af f.length cf, .slice ag g.length cg] w (fun o9 w' => ∃ a' c' ys q, o9 = .tuple #[.slice a' ys.length c', VB q] ∧ RV [] (opt ((NOk A ∧ NOk B ∧ IsPM A B f) ∧ (NOk B ∧ NOk C ∧ IsPM B C g)) (thr g f)) ys q ∧ Ints 0 w'.heap.size w' a' c' ys ∧ ys.length ≤ 1048576 ∧ Ext w w') := by
  have hqA := totL_len A.ends
  have hmA : totL A.ends + A.ids.length + A.inputs.length ≤ 1048576 := hnA
  have hqB := totL_len B.ends
  have hmB : totL B.ends + B.ids.length + B.inputs.length ≤ 1048576 := hnB
  have hqC := totL_len C.ends
  have hmC : totL C.ends + C.ids.length + C.inputs.length ≤ 1048576 := hnC
  have htl := thr_len g f
  have hE := Ext.refl w
  refine Fn_of Try.func38 rfl rfl (by kernel_rfl) rfl ?_
  refine W_seq ?_
  refine W_region ?_
  refine WL_m rfl (ev_box rfl) ?_
  rintro _ w5 ⟨rfl, hN5⟩
  have hz5 := hN5.size
  replace hE := hE.trans hN5.ext
  replace hA := hA.ext hN5.ext
  replace hB := hB.ext hN5.ext
  replace hC := hC.ext hN5.ext
  replace hf := hf.ext hN5.ext
  replace hg := hg.ext hN5.ext
  have hB5 : Blk w5 _ _ [_, _, _] := hN5.blk
  refine WL_m rfl (ev_box rfl) ?_
  rintro _ w6 ⟨rfl, hN6⟩
  have hz6 := hN6.size
  replace hE := hE.trans hN6.ext
  replace hA := hA.ext hN6.ext
  replace hB := hB.ext hN6.ext
  replace hC := hC.ext hN6.ext
  replace hf := hf.ext hN6.ext
  replace hg := hg.ext hN6.ext
  replace hB5 := hB5.ext hN6.ext
  have hB6 : Blk w6 _ _ [_, _, _] := hN6.blk
  refine WL_m rfl (ev_box rfl) ?_
  rintro _ w7 ⟨rfl, hN7⟩
  have hz7 := hN7.size
  replace hE := hE.trans hN7.ext
  replace hA := hA.ext hN7.ext
  replace hB := hB.ext hN7.ext
  replace hC := hC.ext hN7.ext
  replace hf := hf.ext hN7.ext
  replace hg := hg.ext hN7.ext
  replace hB5 := hB5.ext hN7.ext
  replace hB6 := hB6.ext hN7.ext
  have hB7 : Blk w7 _ _ [_, _, _] := hN7.blk
  refine WL_q rfl (ev_assign rfl) ?_
  refine WL_q rfl (ev_assign rfl) ?_
  refine WL_nil ?_
  refine thenE_n ?_
  refine W_seq ?_
  refine W_seq ?_
  refine W_region ?_
  refine WL_q rfl (ev_loads st31 sz31 rfl (cellsB hB5) rfl) ?_
  refine WL_q rfl (ev_loads st31 sz31 rfl (cellsB hB6) rfl) ?_
  refine WL_q rfl (ev_move rfl) ?_
  refine WL_m rfl (ev_call rfl (coAsked_spec _ _ _ _ _ _ _ _ (by assumption) (by assumption) (by assumption) (by omega) (by omega) (by omega) (by omega) (by omega) (by omega))) ?_
  rintro _ w15 ⟨b15, rfl, hb15, hE15⟩
  have hz15 := hE15.size
  replace hE := hE.trans hE15
  replace hA := hA.ext hE15
  replace hB := hB.ext hE15
  replace hC := hC.ext hE15
  replace hf := hf.ext hE15
  replace hg := hg.ext hE15
  replace hB5 := hB5.ext hE15
  replace hB6 := hB6.ext hE15
  replace hB7 := hB7.ext hE15
  refine WL_q rfl (ev_not rfl) ?_
  refine WL_q rfl (ev_move rfl) ?_
  refine WL_splitv (t := 17) rfl (fun hg16 => ?_) (fun hg16 => ?_)
  · have hg15 := not_true hg16
    have hp15 := ttN hb15 hg15
    refine WL_no rfl rfl hg16 rfl ?_
    refine WL_no rfl rfl hg16 rfl ?_
    refine WL_no rfl rfl hg16 rfl ?_
    refine WL_no rfl rfl hg16 rfl ?_
    refine WL_no rfl rfl hg16 rfl ?_
    refine WL_q rfl (ev_pick_t rfl hg16 rfl) ?_
    refine WL_nil ?_
    refine thenE_n ?_
    refine W_cond_t rfl ?_
    refine W_seq ?_
    refine W_region ?_
    refine WL_q rfl (ev_assign rfl) ?_
    refine WL_q rfl (ev_assign rfl) ?_
    refine WL_nil ?_
    refine thenE_n ?_
    refine W_ret ?_
    refine thenE_r ?_
    refine ret2 rfl rfl rfl ?_
    first | (exact ⟨none, 0, [], _, rfl, .no (fun h => hp15 h.1), Ints.nil, by simp, hE⟩) | (exact ⟨none, 0, [], _, rfl, .no (fun h => hp21 h.2), Ints.nil, by simp, hE⟩) | (exact ⟨_, _, _, true, rfl, .yes ⟨hp15, hp21⟩ rfl, (own_i hO26).mono (Nat.zero_le _) (Nat.le_refl _), by omega, hE⟩)
  · have hg15 := not_false hg16
    have hp15 := hb15.1 hg15
    refine WL_qg rfl rfl hg16 rfl (ev_loads st31 sz31 rfl (cellsB hB6) rfl) ?_
    refine WL_qg rfl rfl hg16 rfl (ev_loads st31 sz31 rfl (cellsB hB7) rfl) ?_
    refine WL_qg rfl rfl hg16 rfl (ev_move rfl) ?_
    refine WL_mg rfl rfl hg16 rfl (ev_call rfl (coAsked_spec _ _ _ _ _ _ _ _ (by assumption) (by assumption) (by assumption) (by omega) (by omega) (by omega) (by omega) (by omega) (by omega))) ?_
    rintro _ w21 ⟨b21, rfl, hb21, hE21⟩
    have hz21 := hE21.size
    replace hE := hE.trans hE21
    replace hA := hA.ext hE21
    replace hB := hB.ext hE21
    replace hC := hC.ext hE21
    replace hf := hf.ext hE21
    replace hg := hg.ext hE21
    replace hB5 := hB5.ext hE21
    replace hB6 := hB6.ext hE21
    replace hB7 := hB7.ext hE21
    refine WL_qg rfl rfl hg16 rfl (ev_not rfl) ?_
    refine WL_q rfl (ev_pick_f rfl hg16 rfl) ?_
    refine WL_nil ?_
    refine thenE_n ?_
    refine W_cond rfl (fun hg22 => ?_) (fun hg22 => ?_)
    · have hg21 := not_true hg22
      have hp21 := ttN hb21 hg21
      refine W_seq ?_
      refine W_region ?_
      refine WL_q rfl (ev_assign rfl) ?_
      refine WL_q rfl (ev_assign rfl) ?_
      refine WL_nil ?_
      refine thenE_n ?_
      refine W_ret ?_
      refine thenE_r ?_
      refine ret2 rfl rfl rfl ?_
      first | (exact ⟨none, 0, [], _, rfl, .no (fun h => hp15 h.1), Ints.nil, by simp, hE⟩) | (exact ⟨none, 0, [], _, rfl, .no (fun h => hp21 h.2), Ints.nil, by simp, hE⟩) | (exact ⟨_, _, _, true, rfl, .yes ⟨hp15, hp21⟩ rfl, (own_i hO26).mono (Nat.zero_le _) (Nat.le_refl _), by omega, hE⟩)
    · have hg21 := not_false hg22
      have hp21 := hb21.1 hg21
      refine W_skip ?_
      refine thenE_n ?_
      refine W_seq ?_
      refine W_region ?_
      refine WL_q rfl (ev_move rfl) ?_
      refine WL_q rfl (ev_move rfl) ?_
      have hr9 : ∀ i (h : i < f.length), 0 ≤ f[i] ∧ f[i].toNat < g.length := fun i h => by have := hp15.2.2.to h; have := hp21.2.2.len; omega
      refine WL_m rfl (ev_call rfl (coThrough_spec _ _ g _ _ f _ hg (by omega) (by omega) hf (by omega) (by omega) (by assumption))) ?_
      rintro _ w26 ⟨a26, c26, rfl, hO26, hE26⟩
      have hz26 := hE26.size
      replace hE := hE.trans hE26
      replace hA := hA.ext hE26
      replace hB := hB.ext hE26
      replace hC := hC.ext hE26
      replace hf := hf.ext hE26
      replace hg := hg.ext hE26
      replace hB5 := hB5.ext hE26
      replace hB6 := hB6.ext hE26
      replace hB7 := hB7.ext hE26
      refine WL_q rfl (ev_assign rfl) ?_
      refine WL_q rfl (ev_assign rfl) ?_
      refine WL_nil ?_
      refine thenE_n ?_
      refine W_ret ?_
      refine ret2 rfl rfl rfl ?_
      first | (exact ⟨none, 0, [], _, rfl, .no (fun h => hp15 h.1), Ints.nil, by simp, hE⟩) | (exact ⟨none, 0, [], _, rfl, .no (fun h => hp21 h.2), Ints.nil, by simp, hE⟩) | (exact ⟨_, _, _, true, rfl, .yes ⟨hp15, hp21⟩ rfl, (own_i hO26).mono (Nat.zero_le _) (Nat.le_refl _), by omega, hE⟩)

set_option maxHeartbeats 8000000 in
set_option maxRecDepth 100000 in
theorem law_ComposeMaps (nA : NA) (A : Net) (nB : NA) (B : Net) (nC : NA) (C : Net) (af : Option Addr) (cf : Nat) (f : List Int) (ag : Option Addr) (cg : Nat) (g : List Int) (w : World) (hA : IsNet 0 w.heap.size w nA A) (hsA : SmN A) (hB : IsNet 0 w.heap.size w nB B) (hsB : SmN B) (hC : IsNet 0 w.heap.size w nC C) (hsC : SmN C) (hf : Ints 0 w.heap.size w af cf f) (hg : Ints 0 w.heap.size w ag cg g) :
    Fn Try.prog 11 #[netV nA A, netV nB B, netV nC C, .slice af f.length cf, .slice ag g.length cg] w (fun v w' => v = VB true ∧ Ext w w') := by
  have hE := Ext.refl w
  refine Fn_of Try.func11 rfl rfl (by kernel_rfl) rfl ?_
  refine W_seq ?_
  refine W_region ?_
  refine WL_m rfl (ev_box rfl) ?_
  rintro _ w5 ⟨rfl, hN5⟩
  have hz5 := hN5.size
  replace hE := hE.trans hN5.ext
  replace hA := hA.ext hN5.ext
  replace hB := hB.ext hN5.ext
  replace hC := hC.ext hN5.ext
  replace hf := hf.ext hN5.ext
  replace hg := hg.ext hN5.ext
  have hB5 : Blk w5 _ _ [_, _, _] := hN5.blk
  refine WL_m rfl (ev_box rfl) ?_
  rintro _ w6 ⟨rfl, hN6⟩
  have hz6 := hN6.size
  replace hE := hE.trans hN6.ext
  replace hA := hA.ext hN6.ext
  replace hB := hB.ext hN6.ext
  replace hC := hC.ext hN6.ext
  replace hf := hf.ext hN6.ext
  replace hg := hg.ext hN6.ext
  replace hB5 := hB5.ext hN6.ext
  have hB6 : Blk w6 _ _ [_, _, _] := hN6.blk
  refine WL_m rfl (ev_box rfl) ?_
  rintro _ w7 ⟨rfl, hN7⟩
  have hz7 := hN7.size
  replace hE := hE.trans hN7.ext
  replace hA := hA.ext hN7.ext
  replace hB := hB.ext hN7.ext
  replace hC := hC.ext hN7.ext
  replace hf := hf.ext hN7.ext
  replace hg := hg.ext hN7.ext
  replace hB5 := hB5.ext hN7.ext
  replace hB6 := hB6.ext hN7.ext
  have hB7 : Blk w7 _ _ [_, _, _] := hN7.blk
  refine WL_q rfl (ev_assign rfl) ?_
  refine WL_nil ?_
  refine thenE_n ?_
  refine W_seq ?_
  refine W_seq ?_
  refine W_region ?_
  refine WL_q rfl (ev_move rfl) ?_
  refine WL_q rfl (ev_len Try.underlying23 rfl) ?_
  refine WL_q rfl (ev_gtr rfl rfl) ?_
  refine WL_nil ?_
  refine thenE_n ?_
  refine W_cond rfl (fun hg28 => ?_) (fun hg28 => ?_)
  · have hp28 := of_decide_eq_true hg28
    refine W_seq ?_
    refine W_region ?_
    refine WL_q rfl (ev_assign rfl) ?_
    refine WL_nil ?_
    refine thenE_n ?_
    refine W_ret ?_
    refine thenE_r ?_
    refine ret1 rfl rfl ?_
    first | (exact ⟨rfl, hE⟩) | (exact (tfX hg28).elim) | (exact (decF hg28).elim) | (exfalso; omega)
  · have hp28 := of_decide_eq_false hg28
    refine W_skip ?_
    refine thenE_n ?_
    refine W_seq ?_
    refine W_seq ?_
    refine W_region ?_
    refine WL_q rfl (ev_move rfl) ?_
    refine WL_q rfl (ev_len Try.underlying23 rfl) ?_
    refine WL_q rfl (ev_gtr rfl rfl) ?_
    refine WL_nil ?_
    refine thenE_n ?_
    refine W_cond rfl (fun hg31 => ?_) (fun hg31 => ?_)
    · have hp31 := of_decide_eq_true hg31
      refine W_seq ?_
      refine W_region ?_
      refine WL_q rfl (ev_assign rfl) ?_
      refine WL_nil ?_
      refine thenE_n ?_
      refine W_ret ?_
      refine thenE_r ?_
      refine ret1 rfl rfl ?_
      first | (exact ⟨rfl, hE⟩) | (exact (tfX hg31).elim) | (exact (decF hg31).elim) | (exfalso; omega)
    · have hp31 := of_decide_eq_false hg31
      refine W_skip ?_
      refine thenE_n ?_
      refine W_seq ?_
      refine W_region ?_
      refine WL_q rfl (ev_assign rfl) ?_
      refine WL_nil ?_
      refine thenE_n ?_
      refine W_seq ?_
      refine W_region ?_
      refine WL_q rfl (ev_loads st25 sz25 rfl (cellsB hB5) rfl) ?_
      refine WL_q rfl (ev_move rfl) ?_
      refine WL_m rfl (ev_call rfl (szNetwork_spec _ A _ _ hA (by omega) hsA)) ?_
      rintro _ w34 ⟨r34, rfl, hE34, hr34⟩
      have hz34 := hE34.size
      replace hE := hE.trans hE34
      replace hA := hA.ext hE34
      replace hB := hB.ext hE34
      replace hC := hC.ext hE34
      replace hf := hf.ext hE34
      replace hg := hg.ext hE34
      replace hB5 := hB5.ext hE34
      replace hB6 := hB6.ext hE34
      replace hB7 := hB7.ext hE34
      refine WL_q rfl (ev_assign rfl) ?_
      refine WL_nil ?_
      refine thenE_n ?_
      refine W_seq ?_
      refine W_seq ?_
      refine W_region ?_
      refine WL_q rfl (ev_move rfl) ?_
      refine WL_q rfl (ev_lss rfl rfl) ?_
      refine WL_nil ?_
      refine thenE_n ?_
      refine W_cond rfl (fun hg36 => ?_) (fun hg36 => ?_)
      · have hp36 := of_decide_eq_true hg36
        refine W_seq ?_
        refine W_region ?_
        refine WL_q rfl (ev_assign rfl) ?_
        refine WL_nil ?_
        refine thenE_n ?_
        refine W_ret ?_
        refine thenE_r ?_
        refine ret1 rfl rfl ?_
        first | (exact ⟨rfl, hE⟩) | (exact (tfX hg36).elim) | (exact (decF hg36).elim) | (exfalso; omega)
      · have hp36 := of_decide_eq_false hg36
        refine W_skip ?_
        refine thenE_n ?_
        refine W_seq ?_
        refine W_region ?_
        refine WL_q rfl (ev_loads st25 sz25 rfl (cellsB hB6) rfl) ?_
        refine WL_q rfl (ev_move rfl) ?_
        refine WL_m rfl (ev_call rfl (szNetwork_spec _ B _ _ hB (by omega) hsB)) ?_
        rintro _ w39 ⟨r39, rfl, hE39, hr39⟩
        have hz39 := hE39.size
        replace hE := hE.trans hE39
        replace hA := hA.ext hE39
        replace hB := hB.ext hE39
        replace hC := hC.ext hE39
        replace hf := hf.ext hE39
        replace hg := hg.ext hE39
        replace hB5 := hB5.ext hE39
        replace hB6 := hB6.ext hE39
        replace hB7 := hB7.ext hE39
        refine WL_q rfl (ev_assign rfl) ?_
        refine WL_nil ?_
        refine thenE_n ?_
        refine W_seq ?_
        refine W_seq ?_
        refine W_region ?_
        refine WL_q rfl (ev_move rfl) ?_
        refine WL_q rfl (ev_lss rfl rfl) ?_
        refine WL_nil ?_
        refine thenE_n ?_
        refine W_cond rfl (fun hg41 => ?_) (fun hg41 => ?_)
        · have hp41 := of_decide_eq_true hg41
          refine W_seq ?_
          refine W_region ?_
          refine WL_q rfl (ev_assign rfl) ?_
          refine WL_nil ?_
          refine thenE_n ?_
          refine W_ret ?_
          refine thenE_r ?_
          refine ret1 rfl rfl ?_
          first | (exact ⟨rfl, hE⟩) | (exact (tfX hg41).elim) | (exact (decF hg41).elim) | (exfalso; omega)
        · have hp41 := of_decide_eq_false hg41
          refine W_skip ?_
          refine thenE_n ?_
          refine W_seq ?_
          refine W_region ?_
          refine WL_q rfl (ev_loads st25 sz25 rfl (cellsB hB7) rfl) ?_
          refine WL_q rfl (ev_move rfl) ?_
          refine WL_m rfl (ev_call rfl (szNetwork_spec _ C _ _ hC (by omega) hsC)) ?_
          rintro _ w44 ⟨r44, rfl, hE44, hr44⟩
          have hz44 := hE44.size
          replace hE := hE.trans hE44
          replace hA := hA.ext hE44
          replace hB := hB.ext hE44
          replace hC := hC.ext hE44
          replace hf := hf.ext hE44
          replace hg := hg.ext hE44
          replace hB5 := hB5.ext hE44
          replace hB6 := hB6.ext hE44
          replace hB7 := hB7.ext hE44
          refine WL_q rfl (ev_assign rfl) ?_
          refine WL_nil ?_
          refine thenE_n ?_
          refine W_seq ?_
          refine W_seq ?_
          refine W_region ?_
          refine WL_q rfl (ev_move rfl) ?_
          refine WL_q rfl (ev_lss rfl rfl) ?_
          refine WL_nil ?_
          refine thenE_n ?_
          refine W_cond rfl (fun hg46 => ?_) (fun hg46 => ?_)
          · have hp46 := of_decide_eq_true hg46
            refine W_seq ?_
            refine W_region ?_
            refine WL_q rfl (ev_assign rfl) ?_
            refine WL_nil ?_
            refine thenE_n ?_
            refine W_ret ?_
            refine thenE_r ?_
            refine ret1 rfl rfl ?_
            first | (exact ⟨rfl, hE⟩) | (exact (tfX hg46).elim) | (exact (decF hg46).elim) | (exfalso; omega)
          · have hp46 := of_decide_eq_false hg46
            refine W_skip ?_
            refine thenE_n ?_
            refine W_seq ?_
            refine W_drawE [(0, true), (2, true), (4, true), (6, true), (8, true), (1, false), (3, false), (5, false), (7, false), (9, false), (10, false), (11, true), (12, true), (13, true), (14, true), (15, true)] mixed (by kernel_rfl) rfl (by kernel_rfl) ?_
            intro wd15 hEd15 hzd15
            replace hE := hE.trans hEd15
            replace hA := hA.ext hEd15
            replace hB := hB.ext hEd15
            replace hC := hC.ext hEd15
            replace hf := hf.ext hEd15
            replace hg := hg.ext hEd15
            replace hB5 := hB5.ext hEd15
            replace hB6 := hB6.ext hEd15
            replace hB7 := hB7.ext hEd15
            have hDd15 := Ext.refl wd15
            refine PW_q rfl rfl (fun wq hq => ev_loads st25 sz25 rfl (cellsB (hq.blk hB5)) rfl) ?_
            refine PW_q rfl rfl (fun wq hq => ev_loads st25 sz25 rfl (cellsB (hq.blk hB6)) rfl) ?_
            refine PW_q rfl rfl (fun wq hq => ev_loads st25 sz25 rfl (cellsB (hq.blk hB7)) rfl) ?_
            refine PW_q rfl rfl (fun wq hq => ev_move rfl) ?_
            refine PW_q rfl rfl (fun wq hq => ev_move rfl) ?_
            refine PW_m rfl rfl (ev_call rfl (toNetwork_spec _ A _ hA (by omega) (by omega))) ?_
            rintro _ w49 ⟨h49, rfl, hF49, hE49⟩
            have hz49 := hE49.size
            replace hE := hE.trans hE49
            replace hDd15 := hDd15.trans hE49
            have hN49 := hF49.is
            refine ⟨hDd15, ?_⟩
            have hA_3 := hA.ext hDd15
            have hB_3 := hB.ext hDd15
            have hC_3 := hC.ext hDd15
            have hf_3 := hf.ext hDd15
            have hg_3 := hg.ext hDd15
            have hB5_3 := hB5.ext hDd15
            have hB6_3 := hB6.ext hDd15
            have hB7_3 := hB7.ext hDd15
            refine PW_m rfl rfl (ev_call rfl (toNetwork_spec _ B _ hB_3 (by omega) (by omega))) ?_
            rintro _ w51 ⟨h51, rfl, hF51, hE51⟩
            have hz51 := hE51.size
            replace hE := hE.trans hE51
            replace hDd15 := hDd15.trans hE51
            replace hF49 := hF49.ext hE51
            replace hN49 := hN49.ext hE51
            have hN51 := hF51.is
            refine ⟨hDd15, ?_⟩
            have hA_5 := hA.ext hDd15
            have hB_5 := hB.ext hDd15
            have hC_5 := hC.ext hDd15
            have hf_5 := hf.ext hDd15
            have hg_5 := hg.ext hDd15
            have hB5_5 := hB5.ext hDd15
            have hB6_5 := hB6.ext hDd15
            have hB7_5 := hB7.ext hDd15
            refine PW_m rfl rfl (ev_call rfl (toNetwork_spec _ C _ hC_5 (by omega) (by omega))) ?_
            rintro _ w53 ⟨h53, rfl, hF53, hE53⟩
            have hz53 := hE53.size
            replace hE := hE.trans hE53
            replace hDd15 := hDd15.trans hE53
            replace hF49 := hF49.ext hE53
            replace hN49 := hN49.ext hE53
            replace hF51 := hF51.ext hE53
            replace hN51 := hN51.ext hE53
            have hN53 := hF53.is
            refine ⟨hDd15, ?_⟩
            have hA_7 := hA.ext hDd15
            have hB_7 := hB.ext hDd15
            have hC_7 := hC.ext hDd15
            have hf_7 := hf.ext hDd15
            have hg_7 := hg.ext hDd15
            have hB5_7 := hB5.ext hDd15
            have hB6_7 := hB6.ext hDd15
            have hB7_7 := hB7.ext hDd15
            refine PW_m rfl rfl (ev_call rfl (toIntS_spec _ _ f _ hf_7 (by omega) (by omega))) ?_
            rintro _ w55 ⟨a55, rfl, hF55, hE55⟩
            have hz55 := hE55.size
            replace hE := hE.trans hE55
            replace hDd15 := hDd15.trans hE55
            replace hF49 := hF49.ext hE55
            replace hN49 := hN49.ext hE55
            replace hF51 := hF51.ext hE55
            replace hN51 := hN51.ext hE55
            replace hF53 := hF53.ext hE55
            replace hN53 := hN53.ext hE55
            have hI55 := hF55.is
            refine ⟨hDd15, ?_⟩
            have hA_9 := hA.ext hDd15
            have hB_9 := hB.ext hDd15
            have hC_9 := hC.ext hDd15
            have hf_9 := hf.ext hDd15
            have hg_9 := hg.ext hDd15
            have hB5_9 := hB5.ext hDd15
            have hB6_9 := hB6.ext hDd15
            have hB7_9 := hB7.ext hDd15
            refine PW_m rfl rfl (ev_call rfl (toIntS_spec _ _ g _ hg_9 (by omega) (by omega))) ?_
            rintro _ w57 ⟨a57, rfl, hF57, hE57⟩
            have hz57 := hE57.size
            replace hE := hE.trans hE57
            replace hDd15 := hDd15.trans hE57
            replace hF49 := hF49.ext hE57
            replace hN49 := hN49.ext hE57
            replace hF51 := hF51.ext hE57
            replace hN51 := hN51.ext hE57
            replace hF53 := hF53.ext hE57
            replace hN53 := hN53.ext hE57
            replace hF55 := hF55.ext hE57
            replace hI55 := hI55.ext hE57
            have hI57 := hF57.is
            refine ⟨hDd15, ?_⟩
            have hA_10 := hA.ext hDd15
            have hB_10 := hB.ext hDd15
            have hC_10 := hC.ext hDd15
            have hf_10 := hf.ext hDd15
            have hg_10 := hg.ext hDd15
            have hB5_10 := hB5.ext hDd15
            have hB6_10 := hB6.ext hDd15
            have hB7_10 := hB7.ext hDd15
            refine PW_m rfl rfl (ev_call rfl (sComposeMaps_spec _ A _ B _ C _ _ f _ _ g _ hN49 (by omega) (by omega) hN51 (by omega) (by omega) hN53 (by omega) (by omega) hI55 (by omega) (by omega) hI57 (by omega) (by omega))) ?_
            rintro _ w58 ⟨a58, c58, y58, q58, rfl, hr58, hx58, hl58, hE58⟩
            have hz58 := hE58.size
            replace hE := hE.trans hE58
            replace hDd15 := hDd15.trans hE58
            replace hF49 := hF49.ext hE58
            replace hN49 := hN49.ext hE58
            replace hF51 := hF51.ext hE58
            replace hN51 := hN51.ext hE58
            replace hF53 := hF53.ext hE58
            replace hN53 := hN53.ext hE58
            replace hF55 := hF55.ext hE58
            replace hI55 := hI55.ext hE58
            replace hF57 := hF57.ext hE58
            replace hI57 := hI57.ext hE58
            refine ⟨hDd15, ?_⟩
            refine PW_q rfl rfl (fun wq hq => ev_move rfl) ?_
            refine PW_q rfl rfl (fun wq hq => ev_extract rfl rfl) ?_
            refine PW_q rfl rfl (fun wq hq => ev_extract rfl rfl) ?_
            refine PW_q rfl rfl (fun wq hq => ev_assign rfl) ?_
            refine PW_q rfl rfl (fun wq hq => ev_assign rfl) ?_
            replace hA := hA.ext hDd15
            replace hB := hB.ext hDd15
            replace hC := hC.ext hDd15
            replace hf := hf.ext hDd15
            replace hg := hg.ext hDd15
            replace hB5 := hB5.ext hDd15
            replace hB6 := hB6.ext hDd15
            replace hB7 := hB7.ext hDd15
            refine PW_nil ?_
            refine thenE_n ?_
            refine W_seq ?_
            refine W_region ?_
            refine WL_q rfl (ev_loads st25 sz25 rfl (cellsB hB5) rfl) ?_
            refine WL_m rfl (ev_call rfl (toNetwork_spec _ A _ hA (by omega) (by omega))) ?_
            rintro _ w62 ⟨h62, rfl, hF62, hE62⟩
            have hz62 := hE62.size
            replace hE := hE.trans hE62
            replace hA := hA.ext hE62
            replace hB := hB.ext hE62
            replace hC := hC.ext hE62
            replace hf := hf.ext hE62
            replace hg := hg.ext hE62
            replace hB5 := hB5.ext hE62
            replace hB6 := hB6.ext hE62
            replace hB7 := hB7.ext hE62
            replace hF49 := hF49.ext hE62
            replace hN49 := hN49.ext hE62
            replace hF51 := hF51.ext hE62
            replace hN51 := hN51.ext hE62
            replace hF53 := hF53.ext hE62
            replace hN53 := hN53.ext hE62
            replace hF55 := hF55.ext hE62
            replace hI55 := hI55.ext hE62
            replace hF57 := hF57.ext hE62
            replace hI57 := hI57.ext hE62
            replace hx58 := hx58.ext hE62
            have hN62 := hF62.is
            refine WL_m rfl (ev_alloc zr31) ?_
            rintro _ w14 ⟨rfl, hN14⟩
            have hz14 := hN14.size
            replace hE := hE.trans hN14.ext
            replace hA := hA.ext hN14.ext
            replace hB := hB.ext hN14.ext
            replace hC := hC.ext hN14.ext
            replace hf := hf.ext hN14.ext
            replace hg := hg.ext hN14.ext
            replace hB5 := hB5.ext hN14.ext
            replace hB6 := hB6.ext hN14.ext
            replace hB7 := hB7.ext hN14.ext
            replace hF49 := hF49.ext hN14.ext
            replace hN49 := hN49.ext hN14.ext
            replace hF51 := hF51.ext hN14.ext
            replace hN51 := hN51.ext hN14.ext
            replace hF53 := hF53.ext hN14.ext
            replace hN53 := hN53.ext hN14.ext
            replace hF55 := hF55.ext hN14.ext
            replace hI55 := hI55.ext hN14.ext
            replace hF57 := hF57.ext hN14.ext
            replace hI57 := hI57.ext hN14.ext
            replace hx58 := hx58.ext hN14.ext
            replace hF62 := hF62.ext hN14.ext
            replace hN62 := hN62.ext hN14.ext
            have hB14 : Blk w14 _ _ [_, _, _] := hN14.blk
            refine WL_s (ev_stores sz31 rfl rfl rfl (by simp [Value.oneCell']) hB14 (by simp)) ?_
            rintro _ w16_3 hS16_3
            have hz16_3 := hS16_3.size
            replace hE := hE.sto hS16_3 (by omega)
            replace hA := hA.sto hS16_3 (by omega)
            replace hB := hB.sto hS16_3 (by omega)
            replace hC := hC.sto hS16_3 (by omega)
            replace hf := hf.sto hS16_3 (by omega)
            replace hg := hg.sto hS16_3 (by omega)
            replace hB5 := hB5.sto hS16_3 (by omega)
            replace hB6 := hB6.sto hS16_3 (by omega)
            replace hB7 := hB7.sto hS16_3 (by omega)
            replace hF49 := hF49.sto hS16_3 (by omega)
            replace hN49 := hN49.sto hS16_3 (by omega)
            replace hF51 := hF51.sto hS16_3 (by omega)
            replace hN51 := hN51.sto hS16_3 (by omega)
            replace hF53 := hF53.sto hS16_3 (by omega)
            replace hN53 := hN53.sto hS16_3 (by omega)
            replace hF55 := hF55.sto hS16_3 (by omega)
            replace hI55 := hI55.sto hS16_3 (by omega)
            replace hF57 := hF57.sto hS16_3 (by omega)
            replace hI57 := hI57.sto hS16_3 (by omega)
            replace hx58 := hx58.sto hS16_3 (by omega)
            replace hF62 := hF62.sto hS16_3 (by omega)
            replace hN62 := hN62.sto hS16_3 (by omega)
            replace hB14 : Blk w16_3 _ _ [_, _, _] := hS16_3.blk
            refine WL_nil ?_
            refine thenE_n ?_
            refine W_seq ?_
            refine W_region ?_
            refine WL_q rfl (ev_loads st25 sz25 rfl (cellsB hB6) rfl) ?_
            refine WL_m rfl (ev_call rfl (toNetwork_spec _ B _ hB (by omega) (by omega))) ?_
            rintro _ w64 ⟨h64, rfl, hF64, hE64⟩
            have hz64 := hE64.size
            replace hE := hE.trans hE64
            replace hA := hA.ext hE64
            replace hB := hB.ext hE64
            replace hC := hC.ext hE64
            replace hf := hf.ext hE64
            replace hg := hg.ext hE64
            replace hB5 := hB5.ext hE64
            replace hB6 := hB6.ext hE64
            replace hB7 := hB7.ext hE64
            replace hF49 := hF49.ext hE64
            replace hN49 := hN49.ext hE64
            replace hF51 := hF51.ext hE64
            replace hN51 := hN51.ext hE64
            replace hF53 := hF53.ext hE64
            replace hN53 := hN53.ext hE64
            replace hF55 := hF55.ext hE64
            replace hI55 := hI55.ext hE64
            replace hF57 := hF57.ext hE64
            replace hI57 := hI57.ext hE64
            replace hx58 := hx58.ext hE64
            replace hF62 := hF62.ext hE64
            replace hN62 := hN62.ext hE64
            replace hB14 := hB14.ext hE64
            have hN64 := hF64.is
            refine WL_m rfl (ev_alloc zr31) ?_
            rintro _ w15 ⟨rfl, hN15⟩
            have hz15 := hN15.size
            replace hE := hE.trans hN15.ext
            replace hA := hA.ext hN15.ext
            replace hB := hB.ext hN15.ext
            replace hC := hC.ext hN15.ext
            replace hf := hf.ext hN15.ext
            replace hg := hg.ext hN15.ext
            replace hB5 := hB5.ext hN15.ext
            replace hB6 := hB6.ext hN15.ext
            replace hB7 := hB7.ext hN15.ext
            replace hF49 := hF49.ext hN15.ext
            replace hN49 := hN49.ext hN15.ext
            replace hF51 := hF51.ext hN15.ext
            replace hN51 := hN51.ext hN15.ext
            replace hF53 := hF53.ext hN15.ext
            replace hN53 := hN53.ext hN15.ext
            replace hF55 := hF55.ext hN15.ext
            replace hI55 := hI55.ext hN15.ext
            replace hF57 := hF57.ext hN15.ext
            replace hI57 := hI57.ext hN15.ext
            replace hx58 := hx58.ext hN15.ext
            replace hF62 := hF62.ext hN15.ext
            replace hN62 := hN62.ext hN15.ext
            replace hB14 := hB14.ext hN15.ext
            replace hF64 := hF64.ext hN15.ext
            replace hN64 := hN64.ext hN15.ext
            have hB15 : Blk w15 _ _ [_, _, _] := hN15.blk
            refine WL_s (ev_stores sz31 rfl rfl rfl (by simp [Value.oneCell']) hB15 (by simp)) ?_
            rintro _ w17_3 hS17_3
            have hz17_3 := hS17_3.size
            replace hE := hE.sto hS17_3 (by omega)
            replace hA := hA.sto hS17_3 (by omega)
            replace hB := hB.sto hS17_3 (by omega)
            replace hC := hC.sto hS17_3 (by omega)
            replace hf := hf.sto hS17_3 (by omega)
            replace hg := hg.sto hS17_3 (by omega)
            replace hB5 := hB5.sto hS17_3 (by omega)
            replace hB6 := hB6.sto hS17_3 (by omega)
            replace hB7 := hB7.sto hS17_3 (by omega)
            replace hF49 := hF49.sto hS17_3 (by omega)
            replace hN49 := hN49.sto hS17_3 (by omega)
            replace hF51 := hF51.sto hS17_3 (by omega)
            replace hN51 := hN51.sto hS17_3 (by omega)
            replace hF53 := hF53.sto hS17_3 (by omega)
            replace hN53 := hN53.sto hS17_3 (by omega)
            replace hF55 := hF55.sto hS17_3 (by omega)
            replace hI55 := hI55.sto hS17_3 (by omega)
            replace hF57 := hF57.sto hS17_3 (by omega)
            replace hI57 := hI57.sto hS17_3 (by omega)
            replace hx58 := hx58.sto hS17_3 (by omega)
            replace hF62 := hF62.sto hS17_3 (by omega)
            replace hN62 := hN62.sto hS17_3 (by omega)
            replace hB14 := hB14.sto hS17_3 (by omega)
            replace hF64 := hF64.sto hS17_3 (by omega)
            replace hN64 := hN64.sto hS17_3 (by omega)
            replace hB15 : Blk w17_3 _ _ [_, _, _] := hS17_3.blk
            refine WL_nil ?_
            refine thenE_n ?_
            refine W_seq ?_
            refine W_region ?_
            refine WL_q rfl (ev_loads st25 sz25 rfl (cellsB hB7) rfl) ?_
            refine WL_m rfl (ev_call rfl (toNetwork_spec _ C _ hC (by omega) (by omega))) ?_
            rintro _ w66 ⟨h66, rfl, hF66, hE66⟩
            have hz66 := hE66.size
            replace hE := hE.trans hE66
            replace hA := hA.ext hE66
            replace hB := hB.ext hE66
            replace hC := hC.ext hE66
            replace hf := hf.ext hE66
            replace hg := hg.ext hE66
            replace hB5 := hB5.ext hE66
            replace hB6 := hB6.ext hE66
            replace hB7 := hB7.ext hE66
            replace hF49 := hF49.ext hE66
            replace hN49 := hN49.ext hE66
            replace hF51 := hF51.ext hE66
            replace hN51 := hN51.ext hE66
            replace hF53 := hF53.ext hE66
            replace hN53 := hN53.ext hE66
            replace hF55 := hF55.ext hE66
            replace hI55 := hI55.ext hE66
            replace hF57 := hF57.ext hE66
            replace hI57 := hI57.ext hE66
            replace hx58 := hx58.ext hE66
            replace hF62 := hF62.ext hE66
            replace hN62 := hN62.ext hE66
            replace hB14 := hB14.ext hE66
            replace hF64 := hF64.ext hE66
            replace hN64 := hN64.ext hE66
            replace hB15 := hB15.ext hE66
            have hN66 := hF66.is
            refine WL_m rfl (ev_alloc zr31) ?_
            rintro _ w16 ⟨rfl, hN16⟩
            have hz16 := hN16.size
            replace hE := hE.trans hN16.ext
            replace hA := hA.ext hN16.ext
            replace hB := hB.ext hN16.ext
            replace hC := hC.ext hN16.ext
            replace hf := hf.ext hN16.ext
            replace hg := hg.ext hN16.ext
            replace hB5 := hB5.ext hN16.ext
            replace hB6 := hB6.ext hN16.ext
            replace hB7 := hB7.ext hN16.ext
            replace hF49 := hF49.ext hN16.ext
            replace hN49 := hN49.ext hN16.ext
            replace hF51 := hF51.ext hN16.ext
            replace hN51 := hN51.ext hN16.ext
            replace hF53 := hF53.ext hN16.ext
            replace hN53 := hN53.ext hN16.ext
            replace hF55 := hF55.ext hN16.ext
            replace hI55 := hI55.ext hN16.ext
            replace hF57 := hF57.ext hN16.ext
            replace hI57 := hI57.ext hN16.ext
            replace hx58 := hx58.ext hN16.ext
            replace hF62 := hF62.ext hN16.ext
            replace hN62 := hN62.ext hN16.ext
            replace hB14 := hB14.ext hN16.ext
            replace hF64 := hF64.ext hN16.ext
            replace hN64 := hN64.ext hN16.ext
            replace hB15 := hB15.ext hN16.ext
            replace hF66 := hF66.ext hN16.ext
            replace hN66 := hN66.ext hN16.ext
            have hB16 : Blk w16 _ _ [_, _, _] := hN16.blk
            refine WL_s (ev_stores sz31 rfl rfl rfl (by simp [Value.oneCell']) hB16 (by simp)) ?_
            rintro _ w18_3 hS18_3
            have hz18_3 := hS18_3.size
            replace hE := hE.sto hS18_3 (by omega)
            replace hA := hA.sto hS18_3 (by omega)
            replace hB := hB.sto hS18_3 (by omega)
            replace hC := hC.sto hS18_3 (by omega)
            replace hf := hf.sto hS18_3 (by omega)
            replace hg := hg.sto hS18_3 (by omega)
            replace hB5 := hB5.sto hS18_3 (by omega)
            replace hB6 := hB6.sto hS18_3 (by omega)
            replace hB7 := hB7.sto hS18_3 (by omega)
            replace hF49 := hF49.sto hS18_3 (by omega)
            replace hN49 := hN49.sto hS18_3 (by omega)
            replace hF51 := hF51.sto hS18_3 (by omega)
            replace hN51 := hN51.sto hS18_3 (by omega)
            replace hF53 := hF53.sto hS18_3 (by omega)
            replace hN53 := hN53.sto hS18_3 (by omega)
            replace hF55 := hF55.sto hS18_3 (by omega)
            replace hI55 := hI55.sto hS18_3 (by omega)
            replace hF57 := hF57.sto hS18_3 (by omega)
            replace hI57 := hI57.sto hS18_3 (by omega)
            replace hx58 := hx58.sto hS18_3 (by omega)
            replace hF62 := hF62.sto hS18_3 (by omega)
            replace hN62 := hN62.sto hS18_3 (by omega)
            replace hB14 := hB14.sto hS18_3 (by omega)
            replace hF64 := hF64.sto hS18_3 (by omega)
            replace hN64 := hN64.sto hS18_3 (by omega)
            replace hB15 := hB15.sto hS18_3 (by omega)
            replace hF66 := hF66.sto hS18_3 (by omega)
            replace hN66 := hN66.sto hS18_3 (by omega)
            replace hB16 : Blk w18_3 _ _ [_, _, _] := hS18_3.blk
            refine WL_nil ?_
            refine thenE_n ?_
            refine W_seq ?_
            refine W_region ?_
            refine WL_q rfl (ev_move rfl) ?_
            refine WL_m rfl (ev_call rfl (toIntS_spec _ _ f _ hf (by omega) (by omega))) ?_
            rintro _ w68 ⟨a68, rfl, hF68, hE68⟩
            have hz68 := hE68.size
            replace hE := hE.trans hE68
            replace hA := hA.ext hE68
            replace hB := hB.ext hE68
            replace hC := hC.ext hE68
            replace hf := hf.ext hE68
            replace hg := hg.ext hE68
            replace hB5 := hB5.ext hE68
            replace hB6 := hB6.ext hE68
            replace hB7 := hB7.ext hE68
            replace hF49 := hF49.ext hE68
            replace hN49 := hN49.ext hE68
            replace hF51 := hF51.ext hE68
            replace hN51 := hN51.ext hE68
            replace hF53 := hF53.ext hE68
            replace hN53 := hN53.ext hE68
            replace hF55 := hF55.ext hE68
            replace hI55 := hI55.ext hE68
            replace hF57 := hF57.ext hE68
            replace hI57 := hI57.ext hE68
            replace hx58 := hx58.ext hE68
            replace hF62 := hF62.ext hE68
            replace hN62 := hN62.ext hE68
            replace hB14 := hB14.ext hE68
            replace hF64 := hF64.ext hE68
            replace hN64 := hN64.ext hE68
            replace hB15 := hB15.ext hE68
            replace hF66 := hF66.ext hE68
            replace hN66 := hN66.ext hE68
            replace hB16 := hB16.ext hE68
            have hI68 := hF68.is
            refine WL_q rfl (ev_assign rfl) ?_
            refine WL_nil ?_
            refine thenE_n ?_
            refine W_seq ?_
            refine W_region ?_
            refine WL_q rfl (ev_move rfl) ?_
            refine WL_m rfl (ev_call rfl (toIntS_spec _ _ g _ hg (by omega) (by omega))) ?_
            rintro _ w70 ⟨a70, rfl, hF70, hE70⟩
            have hz70 := hE70.size
            replace hE := hE.trans hE70
            replace hA := hA.ext hE70
            replace hB := hB.ext hE70
            replace hC := hC.ext hE70
            replace hf := hf.ext hE70
            replace hg := hg.ext hE70
            replace hB5 := hB5.ext hE70
            replace hB6 := hB6.ext hE70
            replace hB7 := hB7.ext hE70
            replace hF49 := hF49.ext hE70
            replace hN49 := hN49.ext hE70
            replace hF51 := hF51.ext hE70
            replace hN51 := hN51.ext hE70
            replace hF53 := hF53.ext hE70
            replace hN53 := hN53.ext hE70
            replace hF55 := hF55.ext hE70
            replace hI55 := hI55.ext hE70
            replace hF57 := hF57.ext hE70
            replace hI57 := hI57.ext hE70
            replace hx58 := hx58.ext hE70
            replace hF62 := hF62.ext hE70
            replace hN62 := hN62.ext hE70
            replace hB14 := hB14.ext hE70
            replace hF64 := hF64.ext hE70
            replace hN64 := hN64.ext hE70
            replace hB15 := hB15.ext hE70
            replace hF66 := hF66.ext hE70
            replace hN66 := hN66.ext hE70
            replace hB16 := hB16.ext hE70
            replace hF68 := hF68.ext hE70
            replace hI68 := hI68.ext hE70
            have hI70 := hF70.is
            refine WL_q rfl (ev_assign rfl) ?_
            refine WL_nil ?_
            refine thenE_n ?_
            refine W_seq ?_
            refine W_region ?_
            refine WL_q rfl (ev_loads st31 sz31 rfl (cellsB hB14) rfl) ?_
            refine WL_q rfl (ev_loads st31 sz31 rfl (cellsB hB15) rfl) ?_
            refine WL_q rfl (ev_loads st31 sz31 rfl (cellsB hB16) rfl) ?_
            refine WL_q rfl (ev_move rfl) ?_
            refine WL_q rfl (ev_move rfl) ?_
            refine WL_m rfl (ev_call rfl (ComposeMaps_spec _ A _ B _ C _ _ f _ _ g _ hN62 (by omega) (by omega) hN64 (by omega) (by omega) hN66 (by omega) (by omega) hI68 (by omega) (by omega) hI70 (by omega) (by omega))) ?_
            rintro _ w77 ⟨a77, c77, y77, q77, rfl, hr77, hO77, hl77, hE77⟩
            have hz77 := hE77.size
            replace hE := hE.trans hE77
            replace hA := hA.ext hE77
            replace hB := hB.ext hE77
            replace hC := hC.ext hE77
            replace hf := hf.ext hE77
            replace hg := hg.ext hE77
            replace hB5 := hB5.ext hE77
            replace hB6 := hB6.ext hE77
            replace hB7 := hB7.ext hE77
            replace hF49 := hF49.ext hE77
            replace hN49 := hN49.ext hE77
            replace hF51 := hF51.ext hE77
            replace hN51 := hN51.ext hE77
            replace hF53 := hF53.ext hE77
            replace hN53 := hN53.ext hE77
            replace hF55 := hF55.ext hE77
            replace hI55 := hI55.ext hE77
            replace hF57 := hF57.ext hE77
            replace hI57 := hI57.ext hE77
            replace hx58 := hx58.ext hE77
            replace hF62 := hF62.ext hE77
            replace hN62 := hN62.ext hE77
            replace hB14 := hB14.ext hE77
            replace hF64 := hF64.ext hE77
            replace hN64 := hN64.ext hE77
            replace hB15 := hB15.ext hE77
            replace hF66 := hF66.ext hE77
            replace hN66 := hN66.ext hE77
            replace hB16 := hB16.ext hE77
            replace hF68 := hF68.ext hE77
            replace hI68 := hI68.ext hE77
            replace hF70 := hF70.ext hE77
            replace hI70 := hI70.ext hE77
            refine WL_q rfl (ev_move rfl) ?_
            refine WL_q rfl (ev_extract rfl rfl) ?_
            refine WL_q rfl (ev_extract rfl rfl) ?_
            refine WL_q rfl (ev_assign rfl) ?_
            refine WL_q rfl (ev_assign rfl) ?_
            refine WL_nil ?_
            refine thenE_n ?_
            refine W_seq ?_
            refine W_seq ?_
            refine W_region ?_
            refine WL_q rfl (ev_move rfl) ?_
            refine WL_q rfl (ev_move rfl) ?_
            refine WL_m rfl (ev_call rfl (eqIntS_spec _ _ _ _ y77 y58 _ (ownt_i hO77) hx58 (by omega))) ?_
            rintro _ w82 ⟨rfl, hE82⟩
            have hz82 := hE82.size
            replace hE := hE.trans hE82
            replace hA := hA.ext hE82
            replace hB := hB.ext hE82
            replace hC := hC.ext hE82
            replace hf := hf.ext hE82
            replace hg := hg.ext hE82
            replace hB5 := hB5.ext hE82
            replace hB6 := hB6.ext hE82
            replace hB7 := hB7.ext hE82
            replace hF49 := hF49.ext hE82
            replace hN49 := hN49.ext hE82
            replace hF51 := hF51.ext hE82
            replace hN51 := hN51.ext hE82
            replace hF53 := hF53.ext hE82
            replace hN53 := hN53.ext hE82
            replace hF55 := hF55.ext hE82
            replace hI55 := hI55.ext hE82
            replace hF57 := hF57.ext hE82
            replace hI57 := hI57.ext hE82
            replace hx58 := hx58.ext hE82
            replace hF62 := hF62.ext hE82
            replace hN62 := hN62.ext hE82
            replace hB14 := hB14.ext hE82
            replace hF64 := hF64.ext hE82
            replace hN64 := hN64.ext hE82
            replace hB15 := hB15.ext hE82
            replace hF66 := hF66.ext hE82
            replace hN66 := hN66.ext hE82
            replace hB16 := hB16.ext hE82
            replace hF68 := hF68.ext hE82
            replace hI68 := hI68.ext hE82
            replace hF70 := hF70.ext hE82
            replace hI70 := hI70.ext hE82
            replace hO77 := hO77.ext hE82
            refine WL_q rfl (ev_not rfl) ?_
            refine WL_q rfl (ev_move rfl) ?_
            refine WL_splitv (t := 84) rfl (fun hg83 => ?_) (fun hg83 => ?_)
            · have hg82 := not_true hg83
              refine WL_no rfl rfl hg83 rfl ?_
              refine WL_no rfl rfl hg83 rfl ?_
              refine WL_no rfl rfl hg83 rfl ?_
              refine WL_q rfl (ev_pick_t rfl hg83 rfl) ?_
              refine WL_nil ?_
              refine thenE_n ?_
              refine W_cond_t rfl ?_
              refine W_seq ?_
              refine W_region ?_
              refine WL_q rfl (ev_assign rfl) ?_
              refine WL_nil ?_
              refine thenE_n ?_
              refine W_ret ?_
              refine thenE_r ?_
              refine ret1 rfl rfl ?_
              first | (exact ⟨rfl, hE⟩) | (exact (bneE hg82 (hr77.det1 hr58)).elim) | (exact absurd (hr77.det1 hr58) hp82) | (exact absurd (hr77.det1 hr58) (of_decide_eq_false hg82)) | (exact (bneE hg82 (hr77.det2 hr58)).elim) | (exact absurd (hr77.det2 hr58) hp82) | (exact absurd (hr77.det2 hr58) (of_decide_eq_false hg82)) | (exact (bneE hg82 (hr77.det3 hr58)).elim) | (exact absurd (hr77.det3 hr58) hp82) | (exact absurd (hr77.det3 hr58) (of_decide_eq_false hg82)) | (exact (tfX hg82).elim) | (exact (decF hg82).elim) | (exfalso; omega)
            · have hg82 := not_false hg83
              refine WL_qg rfl rfl hg83 rfl (ev_move rfl) ?_
              refine WL_qg rfl rfl hg83 rfl (ev_move rfl) ?_
              refine WL_qg rfl rfl hg83 rfl (ev_neq_b Try.underlying4 rfl rfl) ?_
              refine WL_q rfl (ev_pick_f rfl hg83 rfl) ?_
              refine WL_nil ?_
              refine thenE_n ?_
              refine W_cond rfl (fun hg87 => ?_) (fun hg87 => ?_)
              · refine W_seq ?_
                refine W_region ?_
                refine WL_q rfl (ev_assign rfl) ?_
                refine WL_nil ?_
                refine thenE_n ?_
                refine W_ret ?_
                refine thenE_r ?_
                refine ret1 rfl rfl ?_
                first | (exact ⟨rfl, hE⟩) | (exact (bneE hg87 (hr77.det1 hr58)).elim) | (exact absurd (hr77.det1 hr58) hp87) | (exact absurd (hr77.det1 hr58) (of_decide_eq_false hg87)) | (exact (bneE hg87 (hr77.det2 hr58)).elim) | (exact absurd (hr77.det2 hr58) hp87) | (exact absurd (hr77.det2 hr58) (of_decide_eq_false hg87)) | (exact (bneE hg87 (hr77.det3 hr58)).elim) | (exact absurd (hr77.det3 hr58) hp87) | (exact absurd (hr77.det3 hr58) (of_decide_eq_false hg87)) | (exact (tfX hg87).elim) | (exact (decF hg87).elim) | (exfalso; omega)
              · refine W_skip ?_
                refine thenE_n ?_
                refine W_seq ?_
                refine W_seq ?_
                refine W_drawE [(0, true), (1, true), (2, false), (3, false), (4, true)] mixed (by kernel_rfl) rfl (by kernel_rfl) ?_
                intro wd24 hEd24 hzd24
                replace hE := hE.trans hEd24
                replace hA := hA.ext hEd24
                replace hB := hB.ext hEd24
                replace hC := hC.ext hEd24
                replace hf := hf.ext hEd24
                replace hg := hg.ext hEd24
                replace hB5 := hB5.ext hEd24
                replace hB6 := hB6.ext hEd24
                replace hB7 := hB7.ext hEd24
                replace hF49 := hF49.ext hEd24
                replace hN49 := hN49.ext hEd24
                replace hF51 := hF51.ext hEd24
                replace hN51 := hN51.ext hEd24
                replace hF53 := hF53.ext hEd24
                replace hN53 := hN53.ext hEd24
                replace hF55 := hF55.ext hEd24
                replace hI55 := hI55.ext hEd24
                replace hF57 := hF57.ext hEd24
                replace hI57 := hI57.ext hEd24
                replace hx58 := hx58.ext hEd24
                replace hF62 := hF62.ext hEd24
                replace hN62 := hN62.ext hEd24
                replace hB14 := hB14.ext hEd24
                replace hF64 := hF64.ext hEd24
                replace hN64 := hN64.ext hEd24
                replace hB15 := hB15.ext hEd24
                replace hF66 := hF66.ext hEd24
                replace hN66 := hN66.ext hEd24
                replace hB16 := hB16.ext hEd24
                replace hF68 := hF68.ext hEd24
                replace hI68 := hI68.ext hEd24
                replace hF70 := hF70.ext hEd24
                replace hI70 := hI70.ext hEd24
                replace hO77 := hO77.ext hEd24
                have hDd24 := Ext.refl wd24
                refine PW_q rfl rfl (fun wq hq => ev_loads st31 sz31 rfl (cellsB (hq.blk hB14)) rfl) ?_
                refine PW_q rfl rfl (fun wq hq => ev_loads st25 sz25 rfl (cellsB (hq.blk hB5)) rfl) ?_
                refine PW_m rfl rfl (ev_call rfl (toNetwork_spec _ A _ hA (by omega) (by omega))) ?_
                rintro _ w91 ⟨h91, rfl, hF91, hE91⟩
                have hz91 := hE91.size
                replace hE := hE.trans hE91
                replace hDd24 := hDd24.trans hE91
                have hN91 := hF91.is
                refine ⟨hDd24, ?_⟩
                have hA_3 := hA.ext hDd24
                have hB_3 := hB.ext hDd24
                have hC_3 := hC.ext hDd24
                have hf_3 := hf.ext hDd24
                have hg_3 := hg.ext hDd24
                have hB5_3 := hB5.ext hDd24
                have hB6_3 := hB6.ext hDd24
                have hB7_3 := hB7.ext hDd24
                have hF49_3 := hF49.ext hDd24
                have hN49_3 := hN49.ext hDd24
                have hF51_3 := hF51.ext hDd24
                have hN51_3 := hN51.ext hDd24
                have hF53_3 := hF53.ext hDd24
                have hN53_3 := hN53.ext hDd24
                have hF55_3 := hF55.ext hDd24
                have hI55_3 := hI55.ext hDd24
                have hF57_3 := hF57.ext hDd24
                have hI57_3 := hI57.ext hDd24
                have hx58_3 := hx58.ext hDd24
                have hF62_3 := hF62.ext hDd24
                have hN62_3 := hN62.ext hDd24
                have hB14_3 := hB14.ext hDd24
                have hF64_3 := hF64.ext hDd24
                have hN64_3 := hN64.ext hDd24
                have hB15_3 := hB15.ext hDd24
                have hF66_3 := hF66.ext hDd24
                have hN66_3 := hN66.ext hDd24
                have hB16_3 := hB16.ext hDd24
                have hF68_3 := hF68.ext hDd24
                have hI68_3 := hI68.ext hDd24
                have hF70_3 := hF70.ext hDd24
                have hI70_3 := hI70.ext hDd24
                have hO77_3 := hO77.ext hDd24
                refine PW_m rfl rfl (ev_call rfl (eqNetwork_spec _ _ A _ hN62_3 hN91 (by omega))) ?_
                rintro _ w92 ⟨rfl, hE92⟩
                have hz92 := hE92.size
                replace hE := hE.trans hE92
                replace hDd24 := hDd24.trans hE92
                replace hF91 := hF91.ext hE92
                replace hN91 := hN91.ext hE92
                refine ⟨hDd24, ?_⟩
                refine PW_q rfl rfl (fun wq hq => ev_not rfl) ?_
                replace hA := hA.ext hDd24
                replace hB := hB.ext hDd24
                replace hC := hC.ext hDd24
                replace hf := hf.ext hDd24
                replace hg := hg.ext hDd24
                replace hB5 := hB5.ext hDd24
                replace hB6 := hB6.ext hDd24
                replace hB7 := hB7.ext hDd24
                replace hF49 := hF49.ext hDd24
                replace hN49 := hN49.ext hDd24
                replace hF51 := hF51.ext hDd24
                replace hN51 := hN51.ext hDd24
                replace hF53 := hF53.ext hDd24
                replace hN53 := hN53.ext hDd24
                replace hF55 := hF55.ext hDd24
                replace hI55 := hI55.ext hDd24
                replace hF57 := hF57.ext hDd24
                replace hI57 := hI57.ext hDd24
                replace hx58 := hx58.ext hDd24
                replace hF62 := hF62.ext hDd24
                replace hN62 := hN62.ext hDd24
                replace hB14 := hB14.ext hDd24
                replace hF64 := hF64.ext hDd24
                replace hN64 := hN64.ext hDd24
                replace hB15 := hB15.ext hDd24
                replace hF66 := hF66.ext hDd24
                replace hN66 := hN66.ext hDd24
                replace hB16 := hB16.ext hDd24
                replace hF68 := hF68.ext hDd24
                replace hI68 := hI68.ext hDd24
                replace hF70 := hF70.ext hDd24
                replace hI70 := hI70.ext hDd24
                replace hO77 := hO77.ext hDd24
                refine PW_nil ?_
                refine thenE_n ?_
                refine W_cond rfl (fun hg93 => ?_) (fun hg93 => ?_)
                · have hg92 := not_true hg93
                  refine W_seq ?_
                  refine W_region ?_
                  refine WL_q rfl (ev_assign rfl) ?_
                  refine WL_nil ?_
                  refine thenE_n ?_
                  refine W_ret ?_
                  refine thenE_r ?_
                  refine ret1 rfl rfl ?_
                  first | (exact ⟨rfl, hE⟩) | (exact (bneE hg92 (hr77.det1 hr58)).elim) | (exact absurd (hr77.det1 hr58) hp92) | (exact absurd (hr77.det1 hr58) (of_decide_eq_false hg92)) | (exact (bneE hg92 (hr77.det2 hr58)).elim) | (exact absurd (hr77.det2 hr58) hp92) | (exact absurd (hr77.det2 hr58) (of_decide_eq_false hg92)) | (exact (bneE hg92 (hr77.det3 hr58)).elim) | (exact absurd (hr77.det3 hr58) hp92) | (exact absurd (hr77.det3 hr58) (of_decide_eq_false hg92)) | (exact (tfX hg92).elim) | (exact (decF hg92).elim) | (exfalso; omega)
                · have hg92 := not_false hg93
                  refine W_skip ?_
                  refine thenE_n ?_
                  refine W_seq ?_
                  refine W_seq ?_
                  refine W_drawE [(0, true), (1, true), (2, false), (3, false), (4, true)] mixed (by kernel_rfl) rfl (by kernel_rfl) ?_
                  intro wd26 hEd26 hzd26
                  replace hE := hE.trans hEd26
                  replace hA := hA.ext hEd26
                  replace hB := hB.ext hEd26
                  replace hC := hC.ext hEd26
                  replace hf := hf.ext hEd26
                  replace hg := hg.ext hEd26
                  replace hB5 := hB5.ext hEd26
                  replace hB6 := hB6.ext hEd26
                  replace hB7 := hB7.ext hEd26
                  replace hF49 := hF49.ext hEd26
                  replace hN49 := hN49.ext hEd26
                  replace hF51 := hF51.ext hEd26
                  replace hN51 := hN51.ext hEd26
                  replace hF53 := hF53.ext hEd26
                  replace hN53 := hN53.ext hEd26
                  replace hF55 := hF55.ext hEd26
                  replace hI55 := hI55.ext hEd26
                  replace hF57 := hF57.ext hEd26
                  replace hI57 := hI57.ext hEd26
                  replace hx58 := hx58.ext hEd26
                  replace hF62 := hF62.ext hEd26
                  replace hN62 := hN62.ext hEd26
                  replace hB14 := hB14.ext hEd26
                  replace hF64 := hF64.ext hEd26
                  replace hN64 := hN64.ext hEd26
                  replace hB15 := hB15.ext hEd26
                  replace hF66 := hF66.ext hEd26
                  replace hN66 := hN66.ext hEd26
                  replace hB16 := hB16.ext hEd26
                  replace hF68 := hF68.ext hEd26
                  replace hI68 := hI68.ext hEd26
                  replace hF70 := hF70.ext hEd26
                  replace hI70 := hI70.ext hEd26
                  replace hO77 := hO77.ext hEd26
                  replace hF91 := hF91.ext hEd26
                  replace hN91 := hN91.ext hEd26
                  have hDd26 := Ext.refl wd26
                  refine PW_q rfl rfl (fun wq hq => ev_loads st31 sz31 rfl (cellsB (hq.blk hB15)) rfl) ?_
                  refine PW_q rfl rfl (fun wq hq => ev_loads st25 sz25 rfl (cellsB (hq.blk hB6)) rfl) ?_
                  refine PW_m rfl rfl (ev_call rfl (toNetwork_spec _ B _ hB (by omega) (by omega))) ?_
                  rintro _ w96 ⟨h96, rfl, hF96, hE96⟩
                  have hz96 := hE96.size
                  replace hE := hE.trans hE96
                  replace hDd26 := hDd26.trans hE96
                  have hN96 := hF96.is
                  refine ⟨hDd26, ?_⟩
                  have hA_3 := hA.ext hDd26
                  have hB_3 := hB.ext hDd26
                  have hC_3 := hC.ext hDd26
                  have hf_3 := hf.ext hDd26
                  have hg_3 := hg.ext hDd26
                  have hB5_3 := hB5.ext hDd26
                  have hB6_3 := hB6.ext hDd26
                  have hB7_3 := hB7.ext hDd26
                  have hF49_3 := hF49.ext hDd26
                  have hN49_3 := hN49.ext hDd26
                  have hF51_3 := hF51.ext hDd26
                  have hN51_3 := hN51.ext hDd26
                  have hF53_3 := hF53.ext hDd26
                  have hN53_3 := hN53.ext hDd26
                  have hF55_3 := hF55.ext hDd26
                  have hI55_3 := hI55.ext hDd26
                  have hF57_3 := hF57.ext hDd26
                  have hI57_3 := hI57.ext hDd26
                  have hx58_3 := hx58.ext hDd26
                  have hF62_3 := hF62.ext hDd26
                  have hN62_3 := hN62.ext hDd26
                  have hB14_3 := hB14.ext hDd26
                  have hF64_3 := hF64.ext hDd26
                  have hN64_3 := hN64.ext hDd26
                  have hB15_3 := hB15.ext hDd26
                  have hF66_3 := hF66.ext hDd26
                  have hN66_3 := hN66.ext hDd26
                  have hB16_3 := hB16.ext hDd26
                  have hF68_3 := hF68.ext hDd26
                  have hI68_3 := hI68.ext hDd26
                  have hF70_3 := hF70.ext hDd26
                  have hI70_3 := hI70.ext hDd26
                  have hO77_3 := hO77.ext hDd26
                  have hF91_3 := hF91.ext hDd26
                  have hN91_3 := hN91.ext hDd26
                  refine PW_m rfl rfl (ev_call rfl (eqNetwork_spec _ _ B _ hN64_3 hN96 (by omega))) ?_
                  rintro _ w97 ⟨rfl, hE97⟩
                  have hz97 := hE97.size
                  replace hE := hE.trans hE97
                  replace hDd26 := hDd26.trans hE97
                  replace hF96 := hF96.ext hE97
                  replace hN96 := hN96.ext hE97
                  refine ⟨hDd26, ?_⟩
                  refine PW_q rfl rfl (fun wq hq => ev_not rfl) ?_
                  replace hA := hA.ext hDd26
                  replace hB := hB.ext hDd26
                  replace hC := hC.ext hDd26
                  replace hf := hf.ext hDd26
                  replace hg := hg.ext hDd26
                  replace hB5 := hB5.ext hDd26
                  replace hB6 := hB6.ext hDd26
                  replace hB7 := hB7.ext hDd26
                  replace hF49 := hF49.ext hDd26
                  replace hN49 := hN49.ext hDd26
                  replace hF51 := hF51.ext hDd26
                  replace hN51 := hN51.ext hDd26
                  replace hF53 := hF53.ext hDd26
                  replace hN53 := hN53.ext hDd26
                  replace hF55 := hF55.ext hDd26
                  replace hI55 := hI55.ext hDd26
                  replace hF57 := hF57.ext hDd26
                  replace hI57 := hI57.ext hDd26
                  replace hx58 := hx58.ext hDd26
                  replace hF62 := hF62.ext hDd26
                  replace hN62 := hN62.ext hDd26
                  replace hB14 := hB14.ext hDd26
                  replace hF64 := hF64.ext hDd26
                  replace hN64 := hN64.ext hDd26
                  replace hB15 := hB15.ext hDd26
                  replace hF66 := hF66.ext hDd26
                  replace hN66 := hN66.ext hDd26
                  replace hB16 := hB16.ext hDd26
                  replace hF68 := hF68.ext hDd26
                  replace hI68 := hI68.ext hDd26
                  replace hF70 := hF70.ext hDd26
                  replace hI70 := hI70.ext hDd26
                  replace hO77 := hO77.ext hDd26
                  replace hF91 := hF91.ext hDd26
                  replace hN91 := hN91.ext hDd26
                  refine PW_nil ?_
                  refine thenE_n ?_
                  refine W_cond rfl (fun hg98 => ?_) (fun hg98 => ?_)
                  · have hg97 := not_true hg98
                    refine W_seq ?_
                    refine W_region ?_
                    refine WL_q rfl (ev_assign rfl) ?_
                    refine WL_nil ?_
                    refine thenE_n ?_
                    refine W_ret ?_
                    refine thenE_r ?_
                    refine ret1 rfl rfl ?_
                    first | (exact ⟨rfl, hE⟩) | (exact (bneE hg97 (hr77.det1 hr58)).elim) | (exact absurd (hr77.det1 hr58) hp97) | (exact absurd (hr77.det1 hr58) (of_decide_eq_false hg97)) | (exact (bneE hg97 (hr77.det2 hr58)).elim) | (exact absurd (hr77.det2 hr58) hp97) | (exact absurd (hr77.det2 hr58) (of_decide_eq_false hg97)) | (exact (bneE hg97 (hr77.det3 hr58)).elim) | (exact absurd (hr77.det3 hr58) hp97) | (exact absurd (hr77.det3 hr58) (of_decide_eq_false hg97)) | (exact (tfX hg97).elim) | (exact (decF hg97).elim) | (exfalso; omega)
                  · have hg97 := not_false hg98
                    refine W_skip ?_
                    refine thenE_n ?_
                    refine W_seq ?_
                    refine W_seq ?_
                    refine W_drawE [(0, true), (1, true), (2, false), (3, false), (4, true)] mixed (by kernel_rfl) rfl (by kernel_rfl) ?_
                    intro wd28 hEd28 hzd28
                    replace hE := hE.trans hEd28
                    replace hA := hA.ext hEd28
                    replace hB := hB.ext hEd28
                    replace hC := hC.ext hEd28
                    replace hf := hf.ext hEd28
                    replace hg := hg.ext hEd28
                    replace hB5 := hB5.ext hEd28
                    replace hB6 := hB6.ext hEd28
                    replace hB7 := hB7.ext hEd28
                    replace hF49 := hF49.ext hEd28
                    replace hN49 := hN49.ext hEd28
                    replace hF51 := hF51.ext hEd28
                    replace hN51 := hN51.ext hEd28
                    replace hF53 := hF53.ext hEd28
                    replace hN53 := hN53.ext hEd28
                    replace hF55 := hF55.ext hEd28
                    replace hI55 := hI55.ext hEd28
                    replace hF57 := hF57.ext hEd28
                    replace hI57 := hI57.ext hEd28
                    replace hx58 := hx58.ext hEd28
                    replace hF62 := hF62.ext hEd28
                    replace hN62 := hN62.ext hEd28
                    replace hB14 := hB14.ext hEd28
                    replace hF64 := hF64.ext hEd28
                    replace hN64 := hN64.ext hEd28
                    replace hB15 := hB15.ext hEd28
                    replace hF66 := hF66.ext hEd28
                    replace hN66 := hN66.ext hEd28
                    replace hB16 := hB16.ext hEd28
                    replace hF68 := hF68.ext hEd28
                    replace hI68 := hI68.ext hEd28
                    replace hF70 := hF70.ext hEd28
                    replace hI70 := hI70.ext hEd28
                    replace hO77 := hO77.ext hEd28
                    replace hF91 := hF91.ext hEd28
                    replace hN91 := hN91.ext hEd28
                    replace hF96 := hF96.ext hEd28
                    replace hN96 := hN96.ext hEd28
                    have hDd28 := Ext.refl wd28
                    refine PW_q rfl rfl (fun wq hq => ev_loads st31 sz31 rfl (cellsB (hq.blk hB16)) rfl) ?_
                    refine PW_q rfl rfl (fun wq hq => ev_loads st25 sz25 rfl (cellsB (hq.blk hB7)) rfl) ?_
                    refine PW_m rfl rfl (ev_call rfl (toNetwork_spec _ C _ hC (by omega) (by omega))) ?_
                    rintro _ w101 ⟨h101, rfl, hF101, hE101⟩
                    have hz101 := hE101.size
                    replace hE := hE.trans hE101
                    replace hDd28 := hDd28.trans hE101
                    have hN101 := hF101.is
                    refine ⟨hDd28, ?_⟩
                    have hA_3 := hA.ext hDd28
                    have hB_3 := hB.ext hDd28
                    have hC_3 := hC.ext hDd28
                    have hf_3 := hf.ext hDd28
                    have hg_3 := hg.ext hDd28
                    have hB5_3 := hB5.ext hDd28
                    have hB6_3 := hB6.ext hDd28
                    have hB7_3 := hB7.ext hDd28
                    have hF49_3 := hF49.ext hDd28
                    have hN49_3 := hN49.ext hDd28
                    have hF51_3 := hF51.ext hDd28
                    have hN51_3 := hN51.ext hDd28
                    have hF53_3 := hF53.ext hDd28
                    have hN53_3 := hN53.ext hDd28
                    have hF55_3 := hF55.ext hDd28
                    have hI55_3 := hI55.ext hDd28
                    have hF57_3 := hF57.ext hDd28
                    have hI57_3 := hI57.ext hDd28
                    have hx58_3 := hx58.ext hDd28
                    have hF62_3 := hF62.ext hDd28
                    have hN62_3 := hN62.ext hDd28
                    have hB14_3 := hB14.ext hDd28
                    have hF64_3 := hF64.ext hDd28
                    have hN64_3 := hN64.ext hDd28
                    have hB15_3 := hB15.ext hDd28
                    have hF66_3 := hF66.ext hDd28
                    have hN66_3 := hN66.ext hDd28
                    have hB16_3 := hB16.ext hDd28
                    have hF68_3 := hF68.ext hDd28
                    have hI68_3 := hI68.ext hDd28
                    have hF70_3 := hF70.ext hDd28
                    have hI70_3 := hI70.ext hDd28
                    have hO77_3 := hO77.ext hDd28
                    have hF91_3 := hF91.ext hDd28
                    have hN91_3 := hN91.ext hDd28
                    have hF96_3 := hF96.ext hDd28
                    have hN96_3 := hN96.ext hDd28
                    refine PW_m rfl rfl (ev_call rfl (eqNetwork_spec _ _ C _ hN66_3 hN101 (by omega))) ?_
                    rintro _ w102 ⟨rfl, hE102⟩
                    have hz102 := hE102.size
                    replace hE := hE.trans hE102
                    replace hDd28 := hDd28.trans hE102
                    replace hF101 := hF101.ext hE102
                    replace hN101 := hN101.ext hE102
                    refine ⟨hDd28, ?_⟩
                    refine PW_q rfl rfl (fun wq hq => ev_not rfl) ?_
                    replace hA := hA.ext hDd28
                    replace hB := hB.ext hDd28
                    replace hC := hC.ext hDd28
                    replace hf := hf.ext hDd28
                    replace hg := hg.ext hDd28
                    replace hB5 := hB5.ext hDd28
                    replace hB6 := hB6.ext hDd28
                    replace hB7 := hB7.ext hDd28
                    replace hF49 := hF49.ext hDd28
                    replace hN49 := hN49.ext hDd28
                    replace hF51 := hF51.ext hDd28
                    replace hN51 := hN51.ext hDd28
                    replace hF53 := hF53.ext hDd28
                    replace hN53 := hN53.ext hDd28
                    replace hF55 := hF55.ext hDd28
                    replace hI55 := hI55.ext hDd28
                    replace hF57 := hF57.ext hDd28
                    replace hI57 := hI57.ext hDd28
                    replace hx58 := hx58.ext hDd28
                    replace hF62 := hF62.ext hDd28
                    replace hN62 := hN62.ext hDd28
                    replace hB14 := hB14.ext hDd28
                    replace hF64 := hF64.ext hDd28
                    replace hN64 := hN64.ext hDd28
                    replace hB15 := hB15.ext hDd28
                    replace hF66 := hF66.ext hDd28
                    replace hN66 := hN66.ext hDd28
                    replace hB16 := hB16.ext hDd28
                    replace hF68 := hF68.ext hDd28
                    replace hI68 := hI68.ext hDd28
                    replace hF70 := hF70.ext hDd28
                    replace hI70 := hI70.ext hDd28
                    replace hO77 := hO77.ext hDd28
                    replace hF91 := hF91.ext hDd28
                    replace hN91 := hN91.ext hDd28
                    replace hF96 := hF96.ext hDd28
                    replace hN96 := hN96.ext hDd28
                    refine PW_nil ?_
                    refine thenE_n ?_
                    refine W_cond rfl (fun hg103 => ?_) (fun hg103 => ?_)
                    · have hg102 := not_true hg103
                      refine W_seq ?_
                      refine W_region ?_
                      refine WL_q rfl (ev_assign rfl) ?_
                      refine WL_nil ?_
                      refine thenE_n ?_
                      refine W_ret ?_
                      refine thenE_r ?_
                      refine ret1 rfl rfl ?_
                      first | (exact ⟨rfl, hE⟩) | (exact (bneE hg102 (hr77.det1 hr58)).elim) | (exact absurd (hr77.det1 hr58) hp102) | (exact absurd (hr77.det1 hr58) (of_decide_eq_false hg102)) | (exact (bneE hg102 (hr77.det2 hr58)).elim) | (exact absurd (hr77.det2 hr58) hp102) | (exact absurd (hr77.det2 hr58) (of_decide_eq_false hg102)) | (exact (bneE hg102 (hr77.det3 hr58)).elim) | (exact absurd (hr77.det3 hr58) hp102) | (exact absurd (hr77.det3 hr58) (of_decide_eq_false hg102)) | (exact (tfX hg102).elim) | (exact (decF hg102).elim) | (exfalso; omega)
                    · have hg102 := not_false hg103
                      refine W_skip ?_
                      refine thenE_n ?_
                      refine W_seq ?_
                      refine W_seq ?_
                      refine W_region ?_
                      refine WL_q rfl (ev_move rfl) ?_
                      refine WL_q rfl (ev_move rfl) ?_
                      refine WL_m rfl (ev_call rfl (toIntS_spec _ _ f _ hf (by omega) (by omega))) ?_
                      rintro _ w106 ⟨a106, rfl, hF106, hE106⟩
                      have hz106 := hE106.size
                      replace hE := hE.trans hE106
                      replace hA := hA.ext hE106
                      replace hB := hB.ext hE106
                      replace hC := hC.ext hE106
                      replace hf := hf.ext hE106
                      replace hg := hg.ext hE106
                      replace hB5 := hB5.ext hE106
                      replace hB6 := hB6.ext hE106
                      replace hB7 := hB7.ext hE106
                      replace hF49 := hF49.ext hE106
                      replace hN49 := hN49.ext hE106
                      replace hF51 := hF51.ext hE106
                      replace hN51 := hN51.ext hE106
                      replace hF53 := hF53.ext hE106
                      replace hN53 := hN53.ext hE106
                      replace hF55 := hF55.ext hE106
                      replace hI55 := hI55.ext hE106
                      replace hF57 := hF57.ext hE106
                      replace hI57 := hI57.ext hE106
                      replace hx58 := hx58.ext hE106
                      replace hF62 := hF62.ext hE106
                      replace hN62 := hN62.ext hE106
                      replace hB14 := hB14.ext hE106
                      replace hF64 := hF64.ext hE106
                      replace hN64 := hN64.ext hE106
                      replace hB15 := hB15.ext hE106
                      replace hF66 := hF66.ext hE106
                      replace hN66 := hN66.ext hE106
                      replace hB16 := hB16.ext hE106
                      replace hF68 := hF68.ext hE106
                      replace hI68 := hI68.ext hE106
                      replace hF70 := hF70.ext hE106
                      replace hI70 := hI70.ext hE106
                      replace hO77 := hO77.ext hE106
                      replace hF91 := hF91.ext hE106
                      replace hN91 := hN91.ext hE106
                      replace hF96 := hF96.ext hE106
                      replace hN96 := hN96.ext hE106
                      replace hF101 := hF101.ext hE106
                      replace hN101 := hN101.ext hE106
                      have hI106 := hF106.is
                      refine WL_m rfl (ev_call rfl (eqIntS_spec _ _ _ _ f f _ hI68 hI106 (by omega))) ?_
                      rintro _ w107 ⟨rfl, hE107⟩
                      have hz107 := hE107.size
                      replace hE := hE.trans hE107
                      replace hA := hA.ext hE107
                      replace hB := hB.ext hE107
                      replace hC := hC.ext hE107
                      replace hf := hf.ext hE107
                      replace hg := hg.ext hE107
                      replace hB5 := hB5.ext hE107
                      replace hB6 := hB6.ext hE107
                      replace hB7 := hB7.ext hE107
                      replace hF49 := hF49.ext hE107
                      replace hN49 := hN49.ext hE107
                      replace hF51 := hF51.ext hE107
                      replace hN51 := hN51.ext hE107
                      replace hF53 := hF53.ext hE107
                      replace hN53 := hN53.ext hE107
                      replace hF55 := hF55.ext hE107
                      replace hI55 := hI55.ext hE107
                      replace hF57 := hF57.ext hE107
                      replace hI57 := hI57.ext hE107
                      replace hx58 := hx58.ext hE107
                      replace hF62 := hF62.ext hE107
                      replace hN62 := hN62.ext hE107
                      replace hB14 := hB14.ext hE107
                      replace hF64 := hF64.ext hE107
                      replace hN64 := hN64.ext hE107
                      replace hB15 := hB15.ext hE107
                      replace hF66 := hF66.ext hE107
                      replace hN66 := hN66.ext hE107
                      replace hB16 := hB16.ext hE107
                      replace hF68 := hF68.ext hE107
                      replace hI68 := hI68.ext hE107
                      replace hF70 := hF70.ext hE107
                      replace hI70 := hI70.ext hE107
                      replace hO77 := hO77.ext hE107
                      replace hF91 := hF91.ext hE107
                      replace hN91 := hN91.ext hE107
                      replace hF96 := hF96.ext hE107
                      replace hN96 := hN96.ext hE107
                      replace hF101 := hF101.ext hE107
                      replace hN101 := hN101.ext hE107
                      replace hF106 := hF106.ext hE107
                      replace hI106 := hI106.ext hE107
                      refine WL_q rfl (ev_not rfl) ?_
                      refine WL_nil ?_
                      refine thenE_n ?_
                      refine W_cond rfl (fun hg108 => ?_) (fun hg108 => ?_)
                      · have hg107 := not_true hg108
                        refine W_seq ?_
                        refine W_region ?_
                        refine WL_q rfl (ev_assign rfl) ?_
                        refine WL_nil ?_
                        refine thenE_n ?_
                        refine W_ret ?_
                        refine thenE_r ?_
                        refine ret1 rfl rfl ?_
                        first | (exact ⟨rfl, hE⟩) | (exact (bneE hg107 (hr77.det1 hr58)).elim) | (exact absurd (hr77.det1 hr58) hp107) | (exact absurd (hr77.det1 hr58) (of_decide_eq_false hg107)) | (exact (bneE hg107 (hr77.det2 hr58)).elim) | (exact absurd (hr77.det2 hr58) hp107) | (exact absurd (hr77.det2 hr58) (of_decide_eq_false hg107)) | (exact (bneE hg107 (hr77.det3 hr58)).elim) | (exact absurd (hr77.det3 hr58) hp107) | (exact absurd (hr77.det3 hr58) (of_decide_eq_false hg107)) | (exact (tfX hg107).elim) | (exact (decF hg107).elim) | (exfalso; omega)
                      · have hg107 := not_false hg108
                        refine W_skip ?_
                        refine thenE_n ?_
                        refine W_seq ?_
                        refine W_seq ?_
                        refine W_region ?_
                        refine WL_q rfl (ev_move rfl) ?_
                        refine WL_q rfl (ev_move rfl) ?_
                        refine WL_m rfl (ev_call rfl (toIntS_spec _ _ g _ hg (by omega) (by omega))) ?_
                        rintro _ w111 ⟨a111, rfl, hF111, hE111⟩
                        have hz111 := hE111.size
                        replace hE := hE.trans hE111
                        replace hA := hA.ext hE111
                        replace hB := hB.ext hE111
                        replace hC := hC.ext hE111
                        replace hf := hf.ext hE111
                        replace hg := hg.ext hE111
                        replace hB5 := hB5.ext hE111
                        replace hB6 := hB6.ext hE111
                        replace hB7 := hB7.ext hE111
                        replace hF49 := hF49.ext hE111
                        replace hN49 := hN49.ext hE111
                        replace hF51 := hF51.ext hE111
                        replace hN51 := hN51.ext hE111
                        replace hF53 := hF53.ext hE111
                        replace hN53 := hN53.ext hE111
                        replace hF55 := hF55.ext hE111
                        replace hI55 := hI55.ext hE111
                        replace hF57 := hF57.ext hE111
                        replace hI57 := hI57.ext hE111
                        replace hx58 := hx58.ext hE111
                        replace hF62 := hF62.ext hE111
                        replace hN62 := hN62.ext hE111
                        replace hB14 := hB14.ext hE111
                        replace hF64 := hF64.ext hE111
                        replace hN64 := hN64.ext hE111
                        replace hB15 := hB15.ext hE111
                        replace hF66 := hF66.ext hE111
                        replace hN66 := hN66.ext hE111
                        replace hB16 := hB16.ext hE111
                        replace hF68 := hF68.ext hE111
                        replace hI68 := hI68.ext hE111
                        replace hF70 := hF70.ext hE111
                        replace hI70 := hI70.ext hE111
                        replace hO77 := hO77.ext hE111
                        replace hF91 := hF91.ext hE111
                        replace hN91 := hN91.ext hE111
                        replace hF96 := hF96.ext hE111
                        replace hN96 := hN96.ext hE111
                        replace hF101 := hF101.ext hE111
                        replace hN101 := hN101.ext hE111
                        replace hF106 := hF106.ext hE111
                        replace hI106 := hI106.ext hE111
                        have hI111 := hF111.is
                        refine WL_m rfl (ev_call rfl (eqIntS_spec _ _ _ _ g g _ hI70 hI111 (by omega))) ?_
                        rintro _ w112 ⟨rfl, hE112⟩
                        have hz112 := hE112.size
                        replace hE := hE.trans hE112
                        replace hA := hA.ext hE112
                        replace hB := hB.ext hE112
                        replace hC := hC.ext hE112
                        replace hf := hf.ext hE112
                        replace hg := hg.ext hE112
                        replace hB5 := hB5.ext hE112
                        replace hB6 := hB6.ext hE112
                        replace hB7 := hB7.ext hE112
                        replace hF49 := hF49.ext hE112
                        replace hN49 := hN49.ext hE112
                        replace hF51 := hF51.ext hE112
                        replace hN51 := hN51.ext hE112
                        replace hF53 := hF53.ext hE112
                        replace hN53 := hN53.ext hE112
                        replace hF55 := hF55.ext hE112
                        replace hI55 := hI55.ext hE112
                        replace hF57 := hF57.ext hE112
                        replace hI57 := hI57.ext hE112
                        replace hx58 := hx58.ext hE112
                        replace hF62 := hF62.ext hE112
                        replace hN62 := hN62.ext hE112
                        replace hB14 := hB14.ext hE112
                        replace hF64 := hF64.ext hE112
                        replace hN64 := hN64.ext hE112
                        replace hB15 := hB15.ext hE112
                        replace hF66 := hF66.ext hE112
                        replace hN66 := hN66.ext hE112
                        replace hB16 := hB16.ext hE112
                        replace hF68 := hF68.ext hE112
                        replace hI68 := hI68.ext hE112
                        replace hF70 := hF70.ext hE112
                        replace hI70 := hI70.ext hE112
                        replace hO77 := hO77.ext hE112
                        replace hF91 := hF91.ext hE112
                        replace hN91 := hN91.ext hE112
                        replace hF96 := hF96.ext hE112
                        replace hN96 := hN96.ext hE112
                        replace hF101 := hF101.ext hE112
                        replace hN101 := hN101.ext hE112
                        replace hF106 := hF106.ext hE112
                        replace hI106 := hI106.ext hE112
                        replace hF111 := hF111.ext hE112
                        replace hI111 := hI111.ext hE112
                        refine WL_q rfl (ev_not rfl) ?_
                        refine WL_nil ?_
                        refine thenE_n ?_
                        refine W_cond rfl (fun hg113 => ?_) (fun hg113 => ?_)
                        · have hg112 := not_true hg113
                          refine W_seq ?_
                          refine W_region ?_
                          refine WL_q rfl (ev_assign rfl) ?_
                          refine WL_nil ?_
                          refine thenE_n ?_
                          refine W_ret ?_
                          refine thenE_r ?_
                          refine ret1 rfl rfl ?_
                          first | (exact ⟨rfl, hE⟩) | (exact (bneE hg112 (hr77.det1 hr58)).elim) | (exact absurd (hr77.det1 hr58) hp112) | (exact absurd (hr77.det1 hr58) (of_decide_eq_false hg112)) | (exact (bneE hg112 (hr77.det2 hr58)).elim) | (exact absurd (hr77.det2 hr58) hp112) | (exact absurd (hr77.det2 hr58) (of_decide_eq_false hg112)) | (exact (bneE hg112 (hr77.det3 hr58)).elim) | (exact absurd (hr77.det3 hr58) hp112) | (exact absurd (hr77.det3 hr58) (of_decide_eq_false hg112)) | (exact (tfX hg112).elim) | (exact (decF hg112).elim) | (exfalso; omega)
                        · have hg112 := not_false hg113
                          refine W_skip ?_
                          refine thenE_n ?_
                          refine W_seq ?_
                          refine W_region ?_
                          refine WL_q rfl (ev_assign rfl) ?_
                          refine WL_nil ?_
                          refine thenE_n ?_
                          refine W_seq ?_
                          refine W_region ?_
                          refine WL_q rfl (ev_loads st31 sz31 rfl (cellsB hB14) rfl) ?_
                          refine WL_q rfl (ev_move rfl) ?_
                          refine WL_m rfl (ev_call rfl (markNetwork_spec _ A _ _ hF62 (by omega) (by omega) (by omega))) ?_
                          rintro _ w116 ⟨r116, rfl, hr116, hK116⟩
                          have hz116 := hK116.size
                          replace hE := hE.mrk hK116 (by omega)
                          replace hA := hA.mrk hK116 (by omega)
                          replace hB := hB.mrk hK116 (by omega)
                          replace hC := hC.mrk hK116 (by omega)
                          replace hf := hf.mrk hK116 (by omega)
                          replace hg := hg.mrk hK116 (by omega)
                          replace hB5 := hB5.mrk hK116 (by omega)
                          replace hB6 := hB6.mrk hK116 (by omega)
                          replace hB7 := hB7.mrk hK116 (by omega)
                          replace hF49 := hF49.mrk hK116 (by omega)
                          replace hN49 := hN49.mrk hK116 (by omega)
                          replace hF51 := hF51.mrk hK116 (by omega)
                          replace hN51 := hN51.mrk hK116 (by omega)
                          replace hF53 := hF53.mrk hK116 (by omega)
                          replace hN53 := hN53.mrk hK116 (by omega)
                          replace hF55 := hF55.mrk hK116 (by omega)
                          replace hI55 := hI55.mrk hK116 (by omega)
                          replace hF57 := hF57.mrk hK116 (by omega)
                          replace hI57 := hI57.mrk hK116 (by omega)
                          replace hx58 := hx58.mrk hK116 (by omega)
                          replace hB14 := hB14.mrk hK116 (by omega)
                          replace hF64 := hF64.mrk hK116 (by omega)
                          replace hN64 := hN64.mrk hK116 (by omega)
                          replace hB15 := hB15.mrk hK116 (by omega)
                          replace hF66 := hF66.mrk hK116 (by omega)
                          replace hN66 := hN66.mrk hK116 (by omega)
                          replace hB16 := hB16.mrk hK116 (by omega)
                          replace hF68 := hF68.mrk hK116 (by omega)
                          replace hI68 := hI68.mrk hK116 (by omega)
                          replace hF70 := hF70.mrk hK116 (by omega)
                          replace hI70 := hI70.mrk hK116 (by omega)
                          replace hO77 := hO77.mrk hK116 (by omega)
                          replace hF91 := hF91.mrk hK116 (by omega)
                          replace hN91 := hN91.mrk hK116 (by omega)
                          replace hF96 := hF96.mrk hK116 (by omega)
                          replace hN96 := hN96.mrk hK116 (by omega)
                          replace hF101 := hF101.mrk hK116 (by omega)
                          replace hN101 := hN101.mrk hK116 (by omega)
                          replace hF106 := hF106.mrk hK116 (by omega)
                          replace hI106 := hI106.mrk hK116 (by omega)
                          replace hF111 := hF111.mrk hK116 (by omega)
                          replace hI111 := hI111.mrk hK116 (by omega)
                          refine WL_q rfl (ev_assign rfl) ?_
                          refine WL_nil ?_
                          refine thenE_n ?_
                          refine W_seq ?_
                          refine W_region ?_
                          refine WL_q rfl (ev_loads st31 sz31 rfl (cellsB hB15) rfl) ?_
                          refine WL_q rfl (ev_move rfl) ?_
                          refine WL_m rfl (ev_call rfl (markNetwork_spec _ B _ _ hF64 (by omega) (by omega) (by omega))) ?_
                          rintro _ w119 ⟨r119, rfl, hr119, hK119⟩
                          have hz119 := hK119.size
                          replace hE := hE.mrk hK119 (by omega)
                          replace hA := hA.mrk hK119 (by omega)
                          replace hB := hB.mrk hK119 (by omega)
                          replace hC := hC.mrk hK119 (by omega)
                          replace hf := hf.mrk hK119 (by omega)
                          replace hg := hg.mrk hK119 (by omega)
                          replace hB5 := hB5.mrk hK119 (by omega)
                          replace hB6 := hB6.mrk hK119 (by omega)
                          replace hB7 := hB7.mrk hK119 (by omega)
                          replace hF49 := hF49.mrk hK119 (by omega)
                          replace hN49 := hN49.mrk hK119 (by omega)
                          replace hF51 := hF51.mrk hK119 (by omega)
                          replace hN51 := hN51.mrk hK119 (by omega)
                          replace hF53 := hF53.mrk hK119 (by omega)
                          replace hN53 := hN53.mrk hK119 (by omega)
                          replace hF55 := hF55.mrk hK119 (by omega)
                          replace hI55 := hI55.mrk hK119 (by omega)
                          replace hF57 := hF57.mrk hK119 (by omega)
                          replace hI57 := hI57.mrk hK119 (by omega)
                          replace hx58 := hx58.mrk hK119 (by omega)
                          replace hB14 := hB14.mrk hK119 (by omega)
                          replace hB15 := hB15.mrk hK119 (by omega)
                          replace hF66 := hF66.mrk hK119 (by omega)
                          replace hN66 := hN66.mrk hK119 (by omega)
                          replace hB16 := hB16.mrk hK119 (by omega)
                          replace hF68 := hF68.mrk hK119 (by omega)
                          replace hI68 := hI68.mrk hK119 (by omega)
                          replace hF70 := hF70.mrk hK119 (by omega)
                          replace hI70 := hI70.mrk hK119 (by omega)
                          replace hO77 := hO77.mrk hK119 (by omega)
                          replace hF91 := hF91.mrk hK119 (by omega)
                          replace hN91 := hN91.mrk hK119 (by omega)
                          replace hF96 := hF96.mrk hK119 (by omega)
                          replace hN96 := hN96.mrk hK119 (by omega)
                          replace hF101 := hF101.mrk hK119 (by omega)
                          replace hN101 := hN101.mrk hK119 (by omega)
                          replace hF106 := hF106.mrk hK119 (by omega)
                          replace hI106 := hI106.mrk hK119 (by omega)
                          replace hF111 := hF111.mrk hK119 (by omega)
                          replace hI111 := hI111.mrk hK119 (by omega)
                          refine WL_q rfl (ev_assign rfl) ?_
                          refine WL_nil ?_
                          refine thenE_n ?_
                          refine W_seq ?_
                          refine W_region ?_
                          refine WL_q rfl (ev_loads st31 sz31 rfl (cellsB hB16) rfl) ?_
                          refine WL_q rfl (ev_move rfl) ?_
                          refine WL_m rfl (ev_call rfl (markNetwork_spec _ C _ _ hF66 (by omega) (by omega) (by omega))) ?_
                          rintro _ w122 ⟨r122, rfl, hr122, hK122⟩
                          have hz122 := hK122.size
                          replace hE := hE.mrk hK122 (by omega)
                          replace hA := hA.mrk hK122 (by omega)
                          replace hB := hB.mrk hK122 (by omega)
                          replace hC := hC.mrk hK122 (by omega)
                          replace hf := hf.mrk hK122 (by omega)
                          replace hg := hg.mrk hK122 (by omega)
                          replace hB5 := hB5.mrk hK122 (by omega)
                          replace hB6 := hB6.mrk hK122 (by omega)
                          replace hB7 := hB7.mrk hK122 (by omega)
                          replace hF49 := hF49.mrk hK122 (by omega)
                          replace hN49 := hN49.mrk hK122 (by omega)
                          replace hF51 := hF51.mrk hK122 (by omega)
                          replace hN51 := hN51.mrk hK122 (by omega)
                          replace hF53 := hF53.mrk hK122 (by omega)
                          replace hN53 := hN53.mrk hK122 (by omega)
                          replace hF55 := hF55.mrk hK122 (by omega)
                          replace hI55 := hI55.mrk hK122 (by omega)
                          replace hF57 := hF57.mrk hK122 (by omega)
                          replace hI57 := hI57.mrk hK122 (by omega)
                          replace hx58 := hx58.mrk hK122 (by omega)
                          replace hB14 := hB14.mrk hK122 (by omega)
                          replace hB15 := hB15.mrk hK122 (by omega)
                          replace hB16 := hB16.mrk hK122 (by omega)
                          replace hF68 := hF68.mrk hK122 (by omega)
                          replace hI68 := hI68.mrk hK122 (by omega)
                          replace hF70 := hF70.mrk hK122 (by omega)
                          replace hI70 := hI70.mrk hK122 (by omega)
                          replace hO77 := hO77.mrk hK122 (by omega)
                          replace hF91 := hF91.mrk hK122 (by omega)
                          replace hN91 := hN91.mrk hK122 (by omega)
                          replace hF96 := hF96.mrk hK122 (by omega)
                          replace hN96 := hN96.mrk hK122 (by omega)
                          replace hF101 := hF101.mrk hK122 (by omega)
                          replace hN101 := hN101.mrk hK122 (by omega)
                          replace hF106 := hF106.mrk hK122 (by omega)
                          replace hI106 := hI106.mrk hK122 (by omega)
                          replace hF111 := hF111.mrk hK122 (by omega)
                          replace hI111 := hI111.mrk hK122 (by omega)
                          refine WL_q rfl (ev_assign rfl) ?_
                          refine WL_nil ?_
                          refine thenE_n ?_
                          refine W_seq ?_
                          refine W_region ?_
                          refine WL_q rfl (ev_move rfl) ?_
                          refine WL_q rfl (ev_move rfl) ?_
                          refine WL_m rfl (ev_call rfl (markIntS_arg hF68 (by omega) (by omega))) ?_
                          rintro _ w125 ⟨rfl, hK125⟩
                          have hz125 := hK125.size
                          replace hE := hE.mrk hK125 (by omega)
                          replace hA := hA.mrk hK125 (by omega)
                          replace hB := hB.mrk hK125 (by omega)
                          replace hC := hC.mrk hK125 (by omega)
                          replace hf := hf.mrk hK125 (by omega)
                          replace hg := hg.mrk hK125 (by omega)
                          replace hB5 := hB5.mrk hK125 (by omega)
                          replace hB6 := hB6.mrk hK125 (by omega)
                          replace hB7 := hB7.mrk hK125 (by omega)
                          replace hF49 := hF49.mrk hK125 (by omega)
                          replace hN49 := hN49.mrk hK125 (by omega)
                          replace hF51 := hF51.mrk hK125 (by omega)
                          replace hN51 := hN51.mrk hK125 (by omega)
                          replace hF53 := hF53.mrk hK125 (by omega)
                          replace hN53 := hN53.mrk hK125 (by omega)
                          replace hF55 := hF55.mrk hK125 (by omega)
                          replace hI55 := hI55.mrk hK125 (by omega)
                          replace hF57 := hF57.mrk hK125 (by omega)
                          replace hI57 := hI57.mrk hK125 (by omega)
                          replace hx58 := hx58.mrk hK125 (by omega)
                          replace hB14 := hB14.mrk hK125 (by omega)
                          replace hB15 := hB15.mrk hK125 (by omega)
                          replace hB16 := hB16.mrk hK125 (by omega)
                          replace hF70 := hF70.mrk hK125 (by omega)
                          replace hI70 := hI70.mrk hK125 (by omega)
                          replace hO77 := hO77.mrk hK125 (by omega)
                          replace hF91 := hF91.mrk hK125 (by omega)
                          replace hN91 := hN91.mrk hK125 (by omega)
                          replace hF96 := hF96.mrk hK125 (by omega)
                          replace hN96 := hN96.mrk hK125 (by omega)
                          replace hF101 := hF101.mrk hK125 (by omega)
                          replace hN101 := hN101.mrk hK125 (by omega)
                          replace hF106 := hF106.mrk hK125 (by omega)
                          replace hI106 := hI106.mrk hK125 (by omega)
                          replace hF111 := hF111.mrk hK125 (by omega)
                          replace hI111 := hI111.mrk hK125 (by omega)
                          refine WL_q rfl (ev_assign rfl) ?_
                          refine WL_nil ?_
                          refine thenE_n ?_
                          refine W_seq ?_
                          refine W_region ?_
                          refine WL_q rfl (ev_move rfl) ?_
                          refine WL_q rfl (ev_move rfl) ?_
                          refine WL_m rfl (ev_call rfl (markIntS_arg hF70 (by omega) (by omega))) ?_
                          rintro _ w128 ⟨rfl, hK128⟩
                          have hz128 := hK128.size
                          replace hE := hE.mrk hK128 (by omega)
                          replace hA := hA.mrk hK128 (by omega)
                          replace hB := hB.mrk hK128 (by omega)
                          replace hC := hC.mrk hK128 (by omega)
                          replace hf := hf.mrk hK128 (by omega)
                          replace hg := hg.mrk hK128 (by omega)
                          replace hB5 := hB5.mrk hK128 (by omega)
                          replace hB6 := hB6.mrk hK128 (by omega)
                          replace hB7 := hB7.mrk hK128 (by omega)
                          replace hF49 := hF49.mrk hK128 (by omega)
                          replace hN49 := hN49.mrk hK128 (by omega)
                          replace hF51 := hF51.mrk hK128 (by omega)
                          replace hN51 := hN51.mrk hK128 (by omega)
                          replace hF53 := hF53.mrk hK128 (by omega)
                          replace hN53 := hN53.mrk hK128 (by omega)
                          replace hF55 := hF55.mrk hK128 (by omega)
                          replace hI55 := hI55.mrk hK128 (by omega)
                          replace hF57 := hF57.mrk hK128 (by omega)
                          replace hI57 := hI57.mrk hK128 (by omega)
                          replace hx58 := hx58.mrk hK128 (by omega)
                          replace hB14 := hB14.mrk hK128 (by omega)
                          replace hB15 := hB15.mrk hK128 (by omega)
                          replace hB16 := hB16.mrk hK128 (by omega)
                          replace hO77 := hO77.mrk hK128 (by omega)
                          replace hF91 := hF91.mrk hK128 (by omega)
                          replace hN91 := hN91.mrk hK128 (by omega)
                          replace hF96 := hF96.mrk hK128 (by omega)
                          replace hN96 := hN96.mrk hK128 (by omega)
                          replace hF101 := hF101.mrk hK128 (by omega)
                          replace hN101 := hN101.mrk hK128 (by omega)
                          replace hF106 := hF106.mrk hK128 (by omega)
                          replace hI106 := hI106.mrk hK128 (by omega)
                          replace hF111 := hF111.mrk hK128 (by omega)
                          replace hI111 := hI111.mrk hK128 (by omega)
                          refine WL_q rfl (ev_assign rfl) ?_
                          refine WL_nil ?_
                          refine thenE_n ?_
                          refine W_seq ?_
                          refine W_seq ?_
                          refine W_region ?_
                          refine WL_q rfl (ev_move rfl) ?_
                          refine WL_q rfl (ev_lss rfl rfl) ?_
                          refine WL_q rfl (ev_move rfl) ?_
                          refine WL_splitv (t := 131) rfl (fun hg130 => ?_) (fun hg130 => ?_)
                          · have hp130 := of_decide_eq_true hg130
                            refine WL_no rfl rfl hg130 rfl ?_
                            refine WL_no rfl rfl hg130 rfl ?_
                            refine WL_no rfl rfl hg130 rfl ?_
                            refine WL_no rfl rfl hg130 rfl ?_
                            refine WL_q rfl (ev_pick_t rfl hg130 rfl) ?_
                            refine WL_q rfl (ev_move rfl) ?_
                            refine WL_no rfl rfl rfl rfl ?_
                            refine WL_no rfl rfl rfl rfl ?_
                            refine WL_no rfl rfl rfl rfl ?_
                            refine WL_q rfl (ev_pick_t rfl rfl rfl) ?_
                            refine WL_nil ?_
                            refine thenE_n ?_
                            refine W_cond_t rfl ?_
                            refine W_seq ?_
                            refine W_region ?_
                            refine WL_q rfl (ev_assign rfl) ?_
                            refine WL_nil ?_
                            refine thenE_n ?_
                            refine W_ret ?_
                            refine thenE_r ?_
                            refine ret1 rfl rfl ?_
                            first | (exact ⟨rfl, hE⟩) | (exact (bneE hg130 (hr77.det1 hr58)).elim) | (exact absurd (hr77.det1 hr58) hp130) | (exact absurd (hr77.det1 hr58) (of_decide_eq_false hg130)) | (exact (bneE hg130 (hr77.det2 hr58)).elim) | (exact absurd (hr77.det2 hr58) hp130) | (exact absurd (hr77.det2 hr58) (of_decide_eq_false hg130)) | (exact (bneE hg130 (hr77.det3 hr58)).elim) | (exact absurd (hr77.det3 hr58) hp130) | (exact absurd (hr77.det3 hr58) (of_decide_eq_false hg130)) | (exact (tfX hg130).elim) | (exact (decF hg130).elim) | (exfalso; omega)
                          · have hp130 := of_decide_eq_false hg130
                            refine WL_qg rfl rfl hg130 rfl (ev_move rfl) ?_
                            refine WL_qg rfl rfl hg130 rfl (ev_move rfl) ?_
                            refine WL_mg rfl rfl hg130 rfl (ev_call rfl (eqIntS_spec _ _ _ _ y77 y58 _ (ownt_i hO77) hx58 (by omega))) ?_
                            rintro _ w134 ⟨rfl, hE134⟩
                            have hz134 := hE134.size
                            replace hE := hE.trans hE134
                            replace hA := hA.ext hE134
                            replace hB := hB.ext hE134
                            replace hC := hC.ext hE134
                            replace hf := hf.ext hE134
                            replace hg := hg.ext hE134
                            replace hB5 := hB5.ext hE134
                            replace hB6 := hB6.ext hE134
                            replace hB7 := hB7.ext hE134
                            replace hF49 := hF49.ext hE134
                            replace hN49 := hN49.ext hE134
                            replace hF51 := hF51.ext hE134
                            replace hN51 := hN51.ext hE134
                            replace hF53 := hF53.ext hE134
                            replace hN53 := hN53.ext hE134
                            replace hF55 := hF55.ext hE134
                            replace hI55 := hI55.ext hE134
                            replace hF57 := hF57.ext hE134
                            replace hI57 := hI57.ext hE134
                            replace hx58 := hx58.ext hE134
                            replace hB14 := hB14.ext hE134
                            replace hB15 := hB15.ext hE134
                            replace hB16 := hB16.ext hE134
                            replace hO77 := hO77.ext hE134
                            replace hF91 := hF91.ext hE134
                            replace hN91 := hN91.ext hE134
                            replace hF96 := hF96.ext hE134
                            replace hN96 := hN96.ext hE134
                            replace hF101 := hF101.ext hE134
                            replace hN101 := hN101.ext hE134
                            replace hF106 := hF106.ext hE134
                            replace hI106 := hI106.ext hE134
                            replace hF111 := hF111.ext hE134
                            replace hI111 := hI111.ext hE134
                            refine WL_qg rfl rfl hg130 rfl (ev_not rfl) ?_
                            refine WL_q rfl (ev_pick_f rfl hg130 rfl) ?_
                            refine WL_q rfl (ev_move rfl) ?_
                            refine WL_splitv (t := 137) rfl (fun hg135 => ?_) (fun hg135 => ?_)
                            · have hg134 := not_true hg135
                              refine WL_no rfl rfl hg135 rfl ?_
                              refine WL_no rfl rfl hg135 rfl ?_
                              refine WL_no rfl rfl hg135 rfl ?_
                              refine WL_q rfl (ev_pick_t rfl hg135 rfl) ?_
                              refine WL_nil ?_
                              refine thenE_n ?_
                              refine W_cond_t rfl ?_
                              refine W_seq ?_
                              refine W_region ?_
                              refine WL_q rfl (ev_assign rfl) ?_
                              refine WL_nil ?_
                              refine thenE_n ?_
                              refine W_ret ?_
                              refine thenE_r ?_
                              refine ret1 rfl rfl ?_
                              first | (exact ⟨rfl, hE⟩) | (exact (bneE hg134 (hr77.det1 hr58)).elim) | (exact absurd (hr77.det1 hr58) hp134) | (exact absurd (hr77.det1 hr58) (of_decide_eq_false hg134)) | (exact (bneE hg134 (hr77.det2 hr58)).elim) | (exact absurd (hr77.det2 hr58) hp134) | (exact absurd (hr77.det2 hr58) (of_decide_eq_false hg134)) | (exact (bneE hg134 (hr77.det3 hr58)).elim) | (exact absurd (hr77.det3 hr58) hp134) | (exact absurd (hr77.det3 hr58) (of_decide_eq_false hg134)) | (exact (tfX hg134).elim) | (exact (decF hg134).elim) | (exfalso; omega)
                            · have hg134 := not_false hg135
                              refine WL_qg rfl rfl hg135 rfl (ev_move rfl) ?_
                              refine WL_qg rfl rfl hg135 rfl (ev_move rfl) ?_
                              refine WL_qg rfl rfl hg135 rfl (ev_neq_b Try.underlying4 rfl rfl) ?_
                              refine WL_q rfl (ev_pick_f rfl hg135 rfl) ?_
                              refine WL_nil ?_
                              refine thenE_n ?_
                              refine W_cond rfl (fun hg140 => ?_) (fun hg140 => ?_)
                              · refine W_seq ?_
                                refine W_region ?_
                                refine WL_q rfl (ev_assign rfl) ?_
                                refine WL_nil ?_
                                refine thenE_n ?_
                                refine W_ret ?_
                                refine thenE_r ?_
                                refine ret1 rfl rfl ?_
                                first | (exact ⟨rfl, hE⟩) | (exact (bneE hg140 (hr77.det1 hr58)).elim) | (exact absurd (hr77.det1 hr58) hp140) | (exact absurd (hr77.det1 hr58) (of_decide_eq_false hg140)) | (exact (bneE hg140 (hr77.det2 hr58)).elim) | (exact absurd (hr77.det2 hr58) hp140) | (exact absurd (hr77.det2 hr58) (of_decide_eq_false hg140)) | (exact (bneE hg140 (hr77.det3 hr58)).elim) | (exact absurd (hr77.det3 hr58) hp140) | (exact absurd (hr77.det3 hr58) (of_decide_eq_false hg140)) | (exact (tfX hg140).elim) | (exact (decF hg140).elim) | (exfalso; omega)
                              · refine W_skip ?_
                                refine thenE_n ?_
                                refine W_seq ?_
                                refine W_region ?_
                                refine WL_q rfl (ev_assign rfl) ?_
                                refine WL_nil ?_
                                refine thenE_n ?_
                                refine W_seq ?_
                                refine W_region ?_
                                refine WL_q rfl (ev_move rfl) ?_
                                refine WL_q rfl (ev_move rfl) ?_
                                refine WL_m rfl (ev_call rfl (markIntS_ownH hO77 (by omega) (by omega))) ?_
                                rintro _ w144 ⟨rfl, hO144, hK144⟩
                                have hz144 := hK144.size
                                have hR144 := hK144
                                replace hE := hE.rg hR144 (by omega)
                                replace hA := hA.rg hR144 (by omega)
                                replace hB := hB.rg hR144 (by omega)
                                replace hC := hC.rg hR144 (by omega)
                                replace hf := hf.rg hR144 (by omega)
                                replace hg := hg.rg hR144 (by omega)
                                replace hB5 := hB5.rg hR144 (by omega)
                                replace hB6 := hB6.rg hR144 (by omega)
                                replace hB7 := hB7.rg hR144 (by omega)
                                replace hF49 := hF49.rg hR144 (by omega)
                                replace hN49 := hN49.rg hR144 (by omega)
                                replace hF51 := hF51.rg hR144 (by omega)
                                replace hN51 := hN51.rg hR144 (by omega)
                                replace hF53 := hF53.rg hR144 (by omega)
                                replace hN53 := hN53.rg hR144 (by omega)
                                replace hF55 := hF55.rg hR144 (by omega)
                                replace hI55 := hI55.rg hR144 (by omega)
                                replace hF57 := hF57.rg hR144 (by omega)
                                replace hI57 := hI57.rg hR144 (by omega)
                                replace hx58 := hx58.rg hR144 (by omega)
                                replace hB14 := hB14.rg hR144 (by omega)
                                replace hB15 := hB15.rg hR144 (by omega)
                                replace hB16 := hB16.rg hR144 (by omega)
                                replace hF91 := hF91.rg hR144 (by omega)
                                replace hN91 := hN91.rg hR144 (by omega)
                                replace hF96 := hF96.rg hR144 (by omega)
                                replace hN96 := hN96.rg hR144 (by omega)
                                replace hF101 := hF101.rg hR144 (by omega)
                                replace hN101 := hN101.rg hR144 (by omega)
                                replace hF106 := hF106.rg hR144 (by omega)
                                replace hI106 := hI106.rg hR144 (by omega)
                                replace hF111 := hF111.rg hR144 (by omega)
                                replace hI111 := hI111.rg hR144 (by omega)
                                replace hO77 := hO144
                                refine WL_q rfl (ev_assign rfl) ?_
                                refine WL_nil ?_
                                refine thenE_n ?_
                                refine W_seq ?_
                                refine W_region ?_
                                refine WL_q rfl (ev_assign rfl) ?_
                                refine WL_nil ?_
                                refine thenE_n ?_
                                refine W_seq ?_
                                refine W_region ?_
                                refine WL_q rfl (ev_move rfl) ?_
                                refine WL_q rfl (ev_move rfl) ?_
                                refine WL_m rfl (ev_call rfl (heldIntS_spec _ _ (nums 1 y77.length) _ _ (Ints.of_own (nums_len _ _) hO77.1) rfl (by omega) (by omega))) ?_
                                rintro _ w147 ⟨rfl, hE147⟩
                                have hz147 := hE147.size
                                replace hE := hE.trans hE147
                                replace hA := hA.ext hE147
                                replace hB := hB.ext hE147
                                replace hC := hC.ext hE147
                                replace hf := hf.ext hE147
                                replace hg := hg.ext hE147
                                replace hB5 := hB5.ext hE147
                                replace hB6 := hB6.ext hE147
                                replace hB7 := hB7.ext hE147
                                replace hF49 := hF49.ext hE147
                                replace hN49 := hN49.ext hE147
                                replace hF51 := hF51.ext hE147
                                replace hN51 := hN51.ext hE147
                                replace hF53 := hF53.ext hE147
                                replace hN53 := hN53.ext hE147
                                replace hF55 := hF55.ext hE147
                                replace hI55 := hI55.ext hE147
                                replace hF57 := hF57.ext hE147
                                replace hI57 := hI57.ext hE147
                                replace hx58 := hx58.ext hE147
                                replace hB14 := hB14.ext hE147
                                replace hB15 := hB15.ext hE147
                                replace hB16 := hB16.ext hE147
                                replace hO77 := hO77.ext hE147
                                replace hF91 := hF91.ext hE147
                                replace hN91 := hN91.ext hE147
                                replace hF96 := hF96.ext hE147
                                replace hN96 := hN96.ext hE147
                                replace hF101 := hF101.ext hE147
                                replace hN101 := hN101.ext hE147
                                replace hF106 := hF106.ext hE147
                                replace hI106 := hI106.ext hE147
                                replace hF111 := hF111.ext hE147
                                replace hI111 := hI111.ext hE147
                                refine WL_q rfl (ev_assign rfl) ?_
                                refine WL_nil ?_
                                refine thenE_n ?_
                                refine W_seq ?_
                                refine W_seq ?_
                                refine W_region ?_
                                refine WL_q rfl (ev_move rfl) ?_
                                refine WL_q rfl (ev_lss rfl rfl) ?_
                                refine WL_nil ?_
                                refine thenE_n ?_
                                refine W_cond rfl (fun hg149 => ?_) (fun hg149 => ?_)
                                · have hp149 := of_decide_eq_true hg149
                                  refine W_seq ?_
                                  refine W_region ?_
                                  refine WL_q rfl (ev_assign rfl) ?_
                                  refine WL_nil ?_
                                  refine thenE_n ?_
                                  refine W_ret ?_
                                  refine thenE_r ?_
                                  refine ret1 rfl rfl ?_
                                  first | (exact ⟨rfl, hE⟩) | (exact (bneE hg149 (hr77.det1 hr58)).elim) | (exact absurd (hr77.det1 hr58) hp149) | (exact absurd (hr77.det1 hr58) (of_decide_eq_false hg149)) | (exact (bneE hg149 (hr77.det2 hr58)).elim) | (exact absurd (hr77.det2 hr58) hp149) | (exact absurd (hr77.det2 hr58) (of_decide_eq_false hg149)) | (exact (bneE hg149 (hr77.det3 hr58)).elim) | (exact absurd (hr77.det3 hr58) hp149) | (exact absurd (hr77.det3 hr58) (of_decide_eq_false hg149)) | (exact (tfX hg149).elim) | (exact (decF hg149).elim) | (exfalso; omega)
                                · have hp149 := of_decide_eq_false hg149
                                  refine W_skip ?_
                                  refine thenE_n ?_
                                  refine W_seq ?_
                                  refine W_seq ?_
                                  refine W_region ?_
                                  refine WL_q rfl (ev_move rfl) ?_
                                  refine WL_q rfl (ev_move rfl) ?_
                                  refine WL_q rfl (ev_neq rfl rfl) ?_
                                  refine WL_nil ?_
                                  refine thenE_n ?_
                                  refine W_cond rfl (fun hg152 => ?_) (fun hg152 => ?_)
                                  · have hp152 := of_decide_eq_true hg152
                                    refine W_seq ?_
                                    refine W_region ?_
                                    refine WL_q rfl (ev_assign rfl) ?_
                                    refine WL_nil ?_
                                    refine thenE_n ?_
                                    refine W_ret ?_
                                    refine thenE_r ?_
                                    refine ret1 rfl rfl ?_
                                    first | (exact ⟨rfl, hE⟩) | (exact (bneE hg152 (hr77.det1 hr58)).elim) | (exact absurd (hr77.det1 hr58) hp152) | (exact absurd (hr77.det1 hr58) (of_decide_eq_false hg152)) | (exact (bneE hg152 (hr77.det2 hr58)).elim) | (exact absurd (hr77.det2 hr58) hp152) | (exact absurd (hr77.det2 hr58) (of_decide_eq_false hg152)) | (exact (bneE hg152 (hr77.det3 hr58)).elim) | (exact absurd (hr77.det3 hr58) hp152) | (exact absurd (hr77.det3 hr58) (of_decide_eq_false hg152)) | (exact (tfX hg152).elim) | (exact (decF hg152).elim) | (exfalso; omega)
                                  · have hp152 := of_decide_eq_false hg152
                                    refine W_skip ?_
                                    refine thenE_n ?_
                                    refine W_seq ?_
                                    refine W_drawE [(0, true), (2, true), (4, true), (6, true), (8, true), (1, false), (3, false), (5, false), (7, false), (9, false), (10, false), (11, true), (12, true), (13, true), (14, true), (15, true)] mixed (by kernel_rfl) rfl (by kernel_rfl) ?_
                                    intro wd50 hEd50 hzd50
                                    replace hE := hE.trans hEd50
                                    replace hA := hA.ext hEd50
                                    replace hB := hB.ext hEd50
                                    replace hC := hC.ext hEd50
                                    replace hf := hf.ext hEd50
                                    replace hg := hg.ext hEd50
                                    replace hB5 := hB5.ext hEd50
                                    replace hB6 := hB6.ext hEd50
                                    replace hB7 := hB7.ext hEd50
                                    replace hF49 := hF49.ext hEd50
                                    replace hN49 := hN49.ext hEd50
                                    replace hF51 := hF51.ext hEd50
                                    replace hN51 := hN51.ext hEd50
                                    replace hF53 := hF53.ext hEd50
                                    replace hN53 := hN53.ext hEd50
                                    replace hF55 := hF55.ext hEd50
                                    replace hI55 := hI55.ext hEd50
                                    replace hF57 := hF57.ext hEd50
                                    replace hI57 := hI57.ext hEd50
                                    replace hx58 := hx58.ext hEd50
                                    replace hB14 := hB14.ext hEd50
                                    replace hB15 := hB15.ext hEd50
                                    replace hB16 := hB16.ext hEd50
                                    replace hO77 := hO77.ext hEd50
                                    replace hF91 := hF91.ext hEd50
                                    replace hN91 := hN91.ext hEd50
                                    replace hF96 := hF96.ext hEd50
                                    replace hN96 := hN96.ext hEd50
                                    replace hF101 := hF101.ext hEd50
                                    replace hN101 := hN101.ext hEd50
                                    replace hF106 := hF106.ext hEd50
                                    replace hI106 := hI106.ext hEd50
                                    replace hF111 := hF111.ext hEd50
                                    replace hI111 := hI111.ext hEd50
                                    have hDd50 := Ext.refl wd50
                                    refine PW_q rfl rfl (fun wq hq => ev_loads st25 sz25 rfl (cellsB (hq.blk hB5)) rfl) ?_
                                    refine PW_q rfl rfl (fun wq hq => ev_loads st25 sz25 rfl (cellsB (hq.blk hB6)) rfl) ?_
                                    refine PW_q rfl rfl (fun wq hq => ev_loads st25 sz25 rfl (cellsB (hq.blk hB7)) rfl) ?_
                                    refine PW_q rfl rfl (fun wq hq => ev_move rfl) ?_
                                    refine PW_q rfl rfl (fun wq hq => ev_move rfl) ?_
                                    refine PW_m rfl rfl (ev_call rfl (toNetwork_spec _ A _ hA (by omega) (by omega))) ?_
                                    rintro _ w155 ⟨h155, rfl, hF155, hE155⟩
                                    have hz155 := hE155.size
                                    replace hE := hE.trans hE155
                                    replace hDd50 := hDd50.trans hE155
                                    have hN155 := hF155.is
                                    refine ⟨hDd50, ?_⟩
                                    have hA_3 := hA.ext hDd50
                                    have hB_3 := hB.ext hDd50
                                    have hC_3 := hC.ext hDd50
                                    have hf_3 := hf.ext hDd50
                                    have hg_3 := hg.ext hDd50
                                    have hB5_3 := hB5.ext hDd50
                                    have hB6_3 := hB6.ext hDd50
                                    have hB7_3 := hB7.ext hDd50
                                    have hF49_3 := hF49.ext hDd50
                                    have hN49_3 := hN49.ext hDd50
                                    have hF51_3 := hF51.ext hDd50
                                    have hN51_3 := hN51.ext hDd50
                                    have hF53_3 := hF53.ext hDd50
                                    have hN53_3 := hN53.ext hDd50
                                    have hF55_3 := hF55.ext hDd50
                                    have hI55_3 := hI55.ext hDd50
                                    have hF57_3 := hF57.ext hDd50
                                    have hI57_3 := hI57.ext hDd50
                                    have hx58_3 := hx58.ext hDd50
                                    have hB14_3 := hB14.ext hDd50
                                    have hB15_3 := hB15.ext hDd50
                                    have hB16_3 := hB16.ext hDd50
                                    have hO77_3 := hO77.ext hDd50
                                    have hF91_3 := hF91.ext hDd50
                                    have hN91_3 := hN91.ext hDd50
                                    have hF96_3 := hF96.ext hDd50
                                    have hN96_3 := hN96.ext hDd50
                                    have hF101_3 := hF101.ext hDd50
                                    have hN101_3 := hN101.ext hDd50
                                    have hF106_3 := hF106.ext hDd50
                                    have hI106_3 := hI106.ext hDd50
                                    have hF111_3 := hF111.ext hDd50
                                    have hI111_3 := hI111.ext hDd50
                                    refine PW_m rfl rfl (ev_call rfl (toNetwork_spec _ B _ hB_3 (by omega) (by omega))) ?_
                                    rintro _ w157 ⟨h157, rfl, hF157, hE157⟩
                                    have hz157 := hE157.size
                                    replace hE := hE.trans hE157
                                    replace hDd50 := hDd50.trans hE157
                                    replace hF155 := hF155.ext hE157
                                    replace hN155 := hN155.ext hE157
                                    have hN157 := hF157.is
                                    refine ⟨hDd50, ?_⟩
                                    have hA_5 := hA.ext hDd50
                                    have hB_5 := hB.ext hDd50
                                    have hC_5 := hC.ext hDd50
                                    have hf_5 := hf.ext hDd50
                                    have hg_5 := hg.ext hDd50
                                    have hB5_5 := hB5.ext hDd50
                                    have hB6_5 := hB6.ext hDd50
                                    have hB7_5 := hB7.ext hDd50
                                    have hF49_5 := hF49.ext hDd50
                                    have hN49_5 := hN49.ext hDd50
                                    have hF51_5 := hF51.ext hDd50
                                    have hN51_5 := hN51.ext hDd50
                                    have hF53_5 := hF53.ext hDd50
                                    have hN53_5 := hN53.ext hDd50
                                    have hF55_5 := hF55.ext hDd50
                                    have hI55_5 := hI55.ext hDd50
                                    have hF57_5 := hF57.ext hDd50
                                    have hI57_5 := hI57.ext hDd50
                                    have hx58_5 := hx58.ext hDd50
                                    have hB14_5 := hB14.ext hDd50
                                    have hB15_5 := hB15.ext hDd50
                                    have hB16_5 := hB16.ext hDd50
                                    have hO77_5 := hO77.ext hDd50
                                    have hF91_5 := hF91.ext hDd50
                                    have hN91_5 := hN91.ext hDd50
                                    have hF96_5 := hF96.ext hDd50
                                    have hN96_5 := hN96.ext hDd50
                                    have hF101_5 := hF101.ext hDd50
                                    have hN101_5 := hN101.ext hDd50
                                    have hF106_5 := hF106.ext hDd50
                                    have hI106_5 := hI106.ext hDd50
                                    have hF111_5 := hF111.ext hDd50
                                    have hI111_5 := hI111.ext hDd50
                                    refine PW_m rfl rfl (ev_call rfl (toNetwork_spec _ C _ hC_5 (by omega) (by omega))) ?_
                                    rintro _ w159 ⟨h159, rfl, hF159, hE159⟩
                                    have hz159 := hE159.size
                                    replace hE := hE.trans hE159
                                    replace hDd50 := hDd50.trans hE159
                                    replace hF155 := hF155.ext hE159
                                    replace hN155 := hN155.ext hE159
                                    replace hF157 := hF157.ext hE159
                                    replace hN157 := hN157.ext hE159
                                    have hN159 := hF159.is
                                    refine ⟨hDd50, ?_⟩
                                    have hA_7 := hA.ext hDd50
                                    have hB_7 := hB.ext hDd50
                                    have hC_7 := hC.ext hDd50
                                    have hf_7 := hf.ext hDd50
                                    have hg_7 := hg.ext hDd50
                                    have hB5_7 := hB5.ext hDd50
                                    have hB6_7 := hB6.ext hDd50
                                    have hB7_7 := hB7.ext hDd50
                                    have hF49_7 := hF49.ext hDd50
                                    have hN49_7 := hN49.ext hDd50
                                    have hF51_7 := hF51.ext hDd50
                                    have hN51_7 := hN51.ext hDd50
                                    have hF53_7 := hF53.ext hDd50
                                    have hN53_7 := hN53.ext hDd50
                                    have hF55_7 := hF55.ext hDd50
                                    have hI55_7 := hI55.ext hDd50
                                    have hF57_7 := hF57.ext hDd50
                                    have hI57_7 := hI57.ext hDd50
                                    have hx58_7 := hx58.ext hDd50
                                    have hB14_7 := hB14.ext hDd50
                                    have hB15_7 := hB15.ext hDd50
                                    have hB16_7 := hB16.ext hDd50
                                    have hO77_7 := hO77.ext hDd50
                                    have hF91_7 := hF91.ext hDd50
                                    have hN91_7 := hN91.ext hDd50
                                    have hF96_7 := hF96.ext hDd50
                                    have hN96_7 := hN96.ext hDd50
                                    have hF101_7 := hF101.ext hDd50
                                    have hN101_7 := hN101.ext hDd50
                                    have hF106_7 := hF106.ext hDd50
                                    have hI106_7 := hI106.ext hDd50
                                    have hF111_7 := hF111.ext hDd50
                                    have hI111_7 := hI111.ext hDd50
                                    refine PW_m rfl rfl (ev_call rfl (toIntS_spec _ _ f _ hf_7 (by omega) (by omega))) ?_
                                    rintro _ w161 ⟨a161, rfl, hF161, hE161⟩
                                    have hz161 := hE161.size
                                    replace hE := hE.trans hE161
                                    replace hDd50 := hDd50.trans hE161
                                    replace hF155 := hF155.ext hE161
                                    replace hN155 := hN155.ext hE161
                                    replace hF157 := hF157.ext hE161
                                    replace hN157 := hN157.ext hE161
                                    replace hF159 := hF159.ext hE161
                                    replace hN159 := hN159.ext hE161
                                    have hI161 := hF161.is
                                    refine ⟨hDd50, ?_⟩
                                    have hA_9 := hA.ext hDd50
                                    have hB_9 := hB.ext hDd50
                                    have hC_9 := hC.ext hDd50
                                    have hf_9 := hf.ext hDd50
                                    have hg_9 := hg.ext hDd50
                                    have hB5_9 := hB5.ext hDd50
                                    have hB6_9 := hB6.ext hDd50
                                    have hB7_9 := hB7.ext hDd50
                                    have hF49_9 := hF49.ext hDd50
                                    have hN49_9 := hN49.ext hDd50
                                    have hF51_9 := hF51.ext hDd50
                                    have hN51_9 := hN51.ext hDd50
                                    have hF53_9 := hF53.ext hDd50
                                    have hN53_9 := hN53.ext hDd50
                                    have hF55_9 := hF55.ext hDd50
                                    have hI55_9 := hI55.ext hDd50
                                    have hF57_9 := hF57.ext hDd50
                                    have hI57_9 := hI57.ext hDd50
                                    have hx58_9 := hx58.ext hDd50
                                    have hB14_9 := hB14.ext hDd50
                                    have hB15_9 := hB15.ext hDd50
                                    have hB16_9 := hB16.ext hDd50
                                    have hO77_9 := hO77.ext hDd50
                                    have hF91_9 := hF91.ext hDd50
                                    have hN91_9 := hN91.ext hDd50
                                    have hF96_9 := hF96.ext hDd50
                                    have hN96_9 := hN96.ext hDd50
                                    have hF101_9 := hF101.ext hDd50
                                    have hN101_9 := hN101.ext hDd50
                                    have hF106_9 := hF106.ext hDd50
                                    have hI106_9 := hI106.ext hDd50
                                    have hF111_9 := hF111.ext hDd50
                                    have hI111_9 := hI111.ext hDd50
                                    refine PW_m rfl rfl (ev_call rfl (toIntS_spec _ _ g _ hg_9 (by omega) (by omega))) ?_
                                    rintro _ w163 ⟨a163, rfl, hF163, hE163⟩
                                    have hz163 := hE163.size
                                    replace hE := hE.trans hE163
                                    replace hDd50 := hDd50.trans hE163
                                    replace hF155 := hF155.ext hE163
                                    replace hN155 := hN155.ext hE163
                                    replace hF157 := hF157.ext hE163
                                    replace hN157 := hN157.ext hE163
                                    replace hF159 := hF159.ext hE163
                                    replace hN159 := hN159.ext hE163
                                    replace hF161 := hF161.ext hE163
                                    replace hI161 := hI161.ext hE163
                                    have hI163 := hF163.is
                                    refine ⟨hDd50, ?_⟩
                                    have hA_10 := hA.ext hDd50
                                    have hB_10 := hB.ext hDd50
                                    have hC_10 := hC.ext hDd50
                                    have hf_10 := hf.ext hDd50
                                    have hg_10 := hg.ext hDd50
                                    have hB5_10 := hB5.ext hDd50
                                    have hB6_10 := hB6.ext hDd50
                                    have hB7_10 := hB7.ext hDd50
                                    have hF49_10 := hF49.ext hDd50
                                    have hN49_10 := hN49.ext hDd50
                                    have hF51_10 := hF51.ext hDd50
                                    have hN51_10 := hN51.ext hDd50
                                    have hF53_10 := hF53.ext hDd50
                                    have hN53_10 := hN53.ext hDd50
                                    have hF55_10 := hF55.ext hDd50
                                    have hI55_10 := hI55.ext hDd50
                                    have hF57_10 := hF57.ext hDd50
                                    have hI57_10 := hI57.ext hDd50
                                    have hx58_10 := hx58.ext hDd50
                                    have hB14_10 := hB14.ext hDd50
                                    have hB15_10 := hB15.ext hDd50
                                    have hB16_10 := hB16.ext hDd50
                                    have hO77_10 := hO77.ext hDd50
                                    have hF91_10 := hF91.ext hDd50
                                    have hN91_10 := hN91.ext hDd50
                                    have hF96_10 := hF96.ext hDd50
                                    have hN96_10 := hN96.ext hDd50
                                    have hF101_10 := hF101.ext hDd50
                                    have hN101_10 := hN101.ext hDd50
                                    have hF106_10 := hF106.ext hDd50
                                    have hI106_10 := hI106.ext hDd50
                                    have hF111_10 := hF111.ext hDd50
                                    have hI111_10 := hI111.ext hDd50
                                    refine PW_m rfl rfl (ev_call rfl (ComposeMaps_spec _ A _ B _ C _ _ f _ _ g _ hN155 (by omega) (by omega) hN157 (by omega) (by omega) hN159 (by omega) (by omega) hI161 (by omega) (by omega) hI163 (by omega) (by omega))) ?_
                                    rintro _ w164 ⟨a164, c164, y164, q164, rfl, hr164, hO164, hl164, hE164⟩
                                    have hz164 := hE164.size
                                    replace hE := hE.trans hE164
                                    replace hDd50 := hDd50.trans hE164
                                    replace hF155 := hF155.ext hE164
                                    replace hN155 := hN155.ext hE164
                                    replace hF157 := hF157.ext hE164
                                    replace hN157 := hN157.ext hE164
                                    replace hF159 := hF159.ext hE164
                                    replace hN159 := hN159.ext hE164
                                    replace hF161 := hF161.ext hE164
                                    replace hI161 := hI161.ext hE164
                                    replace hF163 := hF163.ext hE164
                                    replace hI163 := hI163.ext hE164
                                    refine ⟨hDd50, ?_⟩
                                    refine PW_q rfl rfl (fun wq hq => ev_move rfl) ?_
                                    refine PW_q rfl rfl (fun wq hq => ev_extract rfl rfl) ?_
                                    refine PW_q rfl rfl (fun wq hq => ev_extract rfl rfl) ?_
                                    refine PW_q rfl rfl (fun wq hq => ev_assign rfl) ?_
                                    refine PW_q rfl rfl (fun wq hq => ev_assign rfl) ?_
                                    replace hA := hA.ext hDd50
                                    replace hB := hB.ext hDd50
                                    replace hC := hC.ext hDd50
                                    replace hf := hf.ext hDd50
                                    replace hg := hg.ext hDd50
                                    replace hB5 := hB5.ext hDd50
                                    replace hB6 := hB6.ext hDd50
                                    replace hB7 := hB7.ext hDd50
                                    replace hF49 := hF49.ext hDd50
                                    replace hN49 := hN49.ext hDd50
                                    replace hF51 := hF51.ext hDd50
                                    replace hN51 := hN51.ext hDd50
                                    replace hF53 := hF53.ext hDd50
                                    replace hN53 := hN53.ext hDd50
                                    replace hF55 := hF55.ext hDd50
                                    replace hI55 := hI55.ext hDd50
                                    replace hF57 := hF57.ext hDd50
                                    replace hI57 := hI57.ext hDd50
                                    replace hx58 := hx58.ext hDd50
                                    replace hB14 := hB14.ext hDd50
                                    replace hB15 := hB15.ext hDd50
                                    replace hB16 := hB16.ext hDd50
                                    replace hO77 := hO77.ext hDd50
                                    replace hF91 := hF91.ext hDd50
                                    replace hN91 := hN91.ext hDd50
                                    replace hF96 := hF96.ext hDd50
                                    replace hN96 := hN96.ext hDd50
                                    replace hF101 := hF101.ext hDd50
                                    replace hN101 := hN101.ext hDd50
                                    replace hF106 := hF106.ext hDd50
                                    replace hI106 := hI106.ext hDd50
                                    replace hF111 := hF111.ext hDd50
                                    replace hI111 := hI111.ext hDd50
                                    refine PW_nil ?_
                                    refine thenE_n ?_
                                    refine W_seq ?_
                                    refine W_seq ?_
                                    refine W_region ?_
                                    refine WL_q rfl (ev_move rfl) ?_
                                    refine WL_q rfl (ev_move rfl) ?_
                                    refine WL_m rfl (ev_call rfl (eqIntS_spec _ _ _ _ y164 y58 _ (ownt_i hO164) hx58 (by omega))) ?_
                                    rintro _ w169 ⟨rfl, hE169⟩
                                    have hz169 := hE169.size
                                    replace hE := hE.trans hE169
                                    replace hA := hA.ext hE169
                                    replace hB := hB.ext hE169
                                    replace hC := hC.ext hE169
                                    replace hf := hf.ext hE169
                                    replace hg := hg.ext hE169
                                    replace hB5 := hB5.ext hE169
                                    replace hB6 := hB6.ext hE169
                                    replace hB7 := hB7.ext hE169
                                    replace hF49 := hF49.ext hE169
                                    replace hN49 := hN49.ext hE169
                                    replace hF51 := hF51.ext hE169
                                    replace hN51 := hN51.ext hE169
                                    replace hF53 := hF53.ext hE169
                                    replace hN53 := hN53.ext hE169
                                    replace hF55 := hF55.ext hE169
                                    replace hI55 := hI55.ext hE169
                                    replace hF57 := hF57.ext hE169
                                    replace hI57 := hI57.ext hE169
                                    replace hx58 := hx58.ext hE169
                                    replace hB14 := hB14.ext hE169
                                    replace hB15 := hB15.ext hE169
                                    replace hB16 := hB16.ext hE169
                                    replace hO77 := hO77.ext hE169
                                    replace hF91 := hF91.ext hE169
                                    replace hN91 := hN91.ext hE169
                                    replace hF96 := hF96.ext hE169
                                    replace hN96 := hN96.ext hE169
                                    replace hF101 := hF101.ext hE169
                                    replace hN101 := hN101.ext hE169
                                    replace hF106 := hF106.ext hE169
                                    replace hI106 := hI106.ext hE169
                                    replace hF111 := hF111.ext hE169
                                    replace hI111 := hI111.ext hE169
                                    replace hF155 := hF155.ext hE169
                                    replace hN155 := hN155.ext hE169
                                    replace hF157 := hF157.ext hE169
                                    replace hN157 := hN157.ext hE169
                                    replace hF159 := hF159.ext hE169
                                    replace hN159 := hN159.ext hE169
                                    replace hF161 := hF161.ext hE169
                                    replace hI161 := hI161.ext hE169
                                    replace hF163 := hF163.ext hE169
                                    replace hI163 := hI163.ext hE169
                                    replace hO164 := hO164.ext hE169
                                    refine WL_q rfl (ev_not rfl) ?_
                                    refine WL_q rfl (ev_move rfl) ?_
                                    refine WL_splitv (t := 171) rfl (fun hg170 => ?_) (fun hg170 => ?_)
                                    · have hg169 := not_true hg170
                                      refine WL_no rfl rfl hg170 rfl ?_
                                      refine WL_no rfl rfl hg170 rfl ?_
                                      refine WL_no rfl rfl hg170 rfl ?_
                                      refine WL_q rfl (ev_pick_t rfl hg170 rfl) ?_
                                      refine WL_nil ?_
                                      refine thenE_n ?_
                                      refine W_cond_t rfl ?_
                                      refine W_seq ?_
                                      refine W_region ?_
                                      refine WL_q rfl (ev_assign rfl) ?_
                                      refine WL_nil ?_
                                      refine thenE_n ?_
                                      refine W_ret ?_
                                      refine thenE_r ?_
                                      refine ret1 rfl rfl ?_
                                      first | (exact ⟨rfl, hE⟩) | (exact (bneE hg169 (hr164.det1 hr58)).elim) | (exact absurd (hr164.det1 hr58) hp169) | (exact absurd (hr164.det1 hr58) (of_decide_eq_false hg169)) | (exact (bneE hg169 (hr164.det2 hr58)).elim) | (exact absurd (hr164.det2 hr58) hp169) | (exact absurd (hr164.det2 hr58) (of_decide_eq_false hg169)) | (exact (bneE hg169 (hr164.det3 hr58)).elim) | (exact absurd (hr164.det3 hr58) hp169) | (exact absurd (hr164.det3 hr58) (of_decide_eq_false hg169)) | (exact (bneE hg169 (hr77.det1 hr58)).elim) | (exact absurd (hr77.det1 hr58) hp169) | (exact absurd (hr77.det1 hr58) (of_decide_eq_false hg169)) | (exact (bneE hg169 (hr77.det2 hr58)).elim) | (exact absurd (hr77.det2 hr58) hp169) | (exact absurd (hr77.det2 hr58) (of_decide_eq_false hg169)) | (exact (bneE hg169 (hr77.det3 hr58)).elim) | (exact absurd (hr77.det3 hr58) hp169) | (exact absurd (hr77.det3 hr58) (of_decide_eq_false hg169)) | (exact (tfX hg169).elim) | (exact (decF hg169).elim) | (exfalso; omega)
                                    · have hg169 := not_false hg170
                                      refine WL_qg rfl rfl hg170 rfl (ev_move rfl) ?_
                                      refine WL_qg rfl rfl hg170 rfl (ev_move rfl) ?_
                                      refine WL_qg rfl rfl hg170 rfl (ev_neq_b Try.underlying4 rfl rfl) ?_
                                      refine WL_q rfl (ev_pick_f rfl hg170 rfl) ?_
                                      refine WL_nil ?_
                                      refine thenE_n ?_
                                      refine W_cond rfl (fun hg174 => ?_) (fun hg174 => ?_)
                                      · refine W_seq ?_
                                        refine W_region ?_
                                        refine WL_q rfl (ev_assign rfl) ?_
                                        refine WL_nil ?_
                                        refine thenE_n ?_
                                        refine W_ret ?_
                                        refine thenE_r ?_
                                        refine ret1 rfl rfl ?_
                                        first | (exact ⟨rfl, hE⟩) | (exact (bneE hg174 (hr164.det1 hr58)).elim) | (exact absurd (hr164.det1 hr58) hp174) | (exact absurd (hr164.det1 hr58) (of_decide_eq_false hg174)) | (exact (bneE hg174 (hr164.det2 hr58)).elim) | (exact absurd (hr164.det2 hr58) hp174) | (exact absurd (hr164.det2 hr58) (of_decide_eq_false hg174)) | (exact (bneE hg174 (hr164.det3 hr58)).elim) | (exact absurd (hr164.det3 hr58) hp174) | (exact absurd (hr164.det3 hr58) (of_decide_eq_false hg174)) | (exact (bneE hg174 (hr77.det1 hr58)).elim) | (exact absurd (hr77.det1 hr58) hp174) | (exact absurd (hr77.det1 hr58) (of_decide_eq_false hg174)) | (exact (bneE hg174 (hr77.det2 hr58)).elim) | (exact absurd (hr77.det2 hr58) hp174) | (exact absurd (hr77.det2 hr58) (of_decide_eq_false hg174)) | (exact (bneE hg174 (hr77.det3 hr58)).elim) | (exact absurd (hr77.det3 hr58) hp174) | (exact absurd (hr77.det3 hr58) (of_decide_eq_false hg174)) | (exact (tfX hg174).elim) | (exact (decF hg174).elim) | (exfalso; omega)
                                      · refine W_skip ?_
                                        refine thenE_n ?_
                                        refine W_seq ?_
                                        refine W_region ?_
                                        refine WL_q rfl (ev_assign rfl) ?_
                                        refine WL_nil ?_
                                        refine thenE_n ?_
                                        refine W_seq ?_
                                        refine W_region ?_
                                        refine WL_q rfl (ev_move rfl) ?_
                                        refine WL_q rfl (ev_move rfl) ?_
                                        refine WL_m rfl (ev_call rfl (heldIntS_spec _ _ (nums 1 y77.length) _ _ (Ints.of_own (nums_len _ _) hO77.1) rfl (by omega) (by omega))) ?_
                                        rintro _ w178 ⟨rfl, hE178⟩
                                        have hz178 := hE178.size
                                        replace hE := hE.trans hE178
                                        replace hA := hA.ext hE178
                                        replace hB := hB.ext hE178
                                        replace hC := hC.ext hE178
                                        replace hf := hf.ext hE178
                                        replace hg := hg.ext hE178
                                        replace hB5 := hB5.ext hE178
                                        replace hB6 := hB6.ext hE178
                                        replace hB7 := hB7.ext hE178
                                        replace hF49 := hF49.ext hE178
                                        replace hN49 := hN49.ext hE178
                                        replace hF51 := hF51.ext hE178
                                        replace hN51 := hN51.ext hE178
                                        replace hF53 := hF53.ext hE178
                                        replace hN53 := hN53.ext hE178
                                        replace hF55 := hF55.ext hE178
                                        replace hI55 := hI55.ext hE178
                                        replace hF57 := hF57.ext hE178
                                        replace hI57 := hI57.ext hE178
                                        replace hx58 := hx58.ext hE178
                                        replace hB14 := hB14.ext hE178
                                        replace hB15 := hB15.ext hE178
                                        replace hB16 := hB16.ext hE178
                                        replace hO77 := hO77.ext hE178
                                        replace hF91 := hF91.ext hE178
                                        replace hN91 := hN91.ext hE178
                                        replace hF96 := hF96.ext hE178
                                        replace hN96 := hN96.ext hE178
                                        replace hF101 := hF101.ext hE178
                                        replace hN101 := hN101.ext hE178
                                        replace hF106 := hF106.ext hE178
                                        replace hI106 := hI106.ext hE178
                                        replace hF111 := hF111.ext hE178
                                        replace hI111 := hI111.ext hE178
                                        replace hF155 := hF155.ext hE178
                                        replace hN155 := hN155.ext hE178
                                        replace hF157 := hF157.ext hE178
                                        replace hN157 := hN157.ext hE178
                                        replace hF159 := hF159.ext hE178
                                        replace hN159 := hN159.ext hE178
                                        replace hF161 := hF161.ext hE178
                                        replace hI161 := hI161.ext hE178
                                        replace hF163 := hF163.ext hE178
                                        replace hI163 := hI163.ext hE178
                                        replace hO164 := hO164.ext hE178
                                        refine WL_q rfl (ev_assign rfl) ?_
                                        refine WL_nil ?_
                                        refine thenE_n ?_
                                        refine W_seq ?_
                                        refine W_seq ?_
                                        refine W_region ?_
                                        refine WL_q rfl (ev_move rfl) ?_
                                        refine WL_q rfl (ev_lss rfl rfl) ?_
                                        refine WL_nil ?_
                                        refine thenE_n ?_
                                        refine W_cond rfl (fun hg180 => ?_) (fun hg180 => ?_)
                                        · have hp180 := of_decide_eq_true hg180
                                          refine W_seq ?_
                                          refine W_region ?_
                                          refine WL_q rfl (ev_assign rfl) ?_
                                          refine WL_nil ?_
                                          refine thenE_n ?_
                                          refine W_ret ?_
                                          refine thenE_r ?_
                                          refine ret1 rfl rfl ?_
                                          first | (exact ⟨rfl, hE⟩) | (exact (bneE hg180 (hr164.det1 hr58)).elim) | (exact absurd (hr164.det1 hr58) hp180) | (exact absurd (hr164.det1 hr58) (of_decide_eq_false hg180)) | (exact (bneE hg180 (hr164.det2 hr58)).elim) | (exact absurd (hr164.det2 hr58) hp180) | (exact absurd (hr164.det2 hr58) (of_decide_eq_false hg180)) | (exact (bneE hg180 (hr164.det3 hr58)).elim) | (exact absurd (hr164.det3 hr58) hp180) | (exact absurd (hr164.det3 hr58) (of_decide_eq_false hg180)) | (exact (bneE hg180 (hr77.det1 hr58)).elim) | (exact absurd (hr77.det1 hr58) hp180) | (exact absurd (hr77.det1 hr58) (of_decide_eq_false hg180)) | (exact (bneE hg180 (hr77.det2 hr58)).elim) | (exact absurd (hr77.det2 hr58) hp180) | (exact absurd (hr77.det2 hr58) (of_decide_eq_false hg180)) | (exact (bneE hg180 (hr77.det3 hr58)).elim) | (exact absurd (hr77.det3 hr58) hp180) | (exact absurd (hr77.det3 hr58) (of_decide_eq_false hg180)) | (exact (tfX hg180).elim) | (exact (decF hg180).elim) | (exfalso; omega)
                                        · have hp180 := of_decide_eq_false hg180
                                          refine W_skip ?_
                                          refine thenE_n ?_
                                          refine W_seq ?_
                                          refine W_seq ?_
                                          refine W_region ?_
                                          refine WL_q rfl (ev_move rfl) ?_
                                          refine WL_q rfl (ev_move rfl) ?_
                                          refine WL_q rfl (ev_neq rfl rfl) ?_
                                          refine WL_nil ?_
                                          refine thenE_n ?_
                                          refine W_cond rfl (fun hg183 => ?_) (fun hg183 => ?_)
                                          · have hp183 := of_decide_eq_true hg183
                                            refine W_seq ?_
                                            refine W_region ?_
                                            refine WL_q rfl (ev_assign rfl) ?_
                                            refine WL_nil ?_
                                            refine thenE_n ?_
                                            refine W_ret ?_
                                            refine thenE_r ?_
                                            refine ret1 rfl rfl ?_
                                            first | (exact ⟨rfl, hE⟩) | (exact (bneE hg183 (hr164.det1 hr58)).elim) | (exact absurd (hr164.det1 hr58) hp183) | (exact absurd (hr164.det1 hr58) (of_decide_eq_false hg183)) | (exact (bneE hg183 (hr164.det2 hr58)).elim) | (exact absurd (hr164.det2 hr58) hp183) | (exact absurd (hr164.det2 hr58) (of_decide_eq_false hg183)) | (exact (bneE hg183 (hr164.det3 hr58)).elim) | (exact absurd (hr164.det3 hr58) hp183) | (exact absurd (hr164.det3 hr58) (of_decide_eq_false hg183)) | (exact (bneE hg183 (hr77.det1 hr58)).elim) | (exact absurd (hr77.det1 hr58) hp183) | (exact absurd (hr77.det1 hr58) (of_decide_eq_false hg183)) | (exact (bneE hg183 (hr77.det2 hr58)).elim) | (exact absurd (hr77.det2 hr58) hp183) | (exact absurd (hr77.det2 hr58) (of_decide_eq_false hg183)) | (exact (bneE hg183 (hr77.det3 hr58)).elim) | (exact absurd (hr77.det3 hr58) hp183) | (exact absurd (hr77.det3 hr58) (of_decide_eq_false hg183)) | (exact (tfX hg183).elim) | (exact (decF hg183).elim) | (exfalso; omega)
                                          · have hp183 := of_decide_eq_false hg183
                                            refine W_skip ?_
                                            refine thenE_n ?_
                                            refine W_seq ?_
                                            refine W_region ?_
                                            refine WL_q rfl (ev_assign rfl) ?_
                                            refine WL_nil ?_
                                            refine thenE_n ?_
                                            refine W_ret ?_
                                            refine ret1 rfl rfl ?_
                                            first | (exact ⟨rfl, hE⟩) | (exact (bneE hg183 (hr164.det1 hr58)).elim) | (exact absurd (hr164.det1 hr58) hp183) | (exact absurd (hr164.det1 hr58) (of_decide_eq_false hg183)) | (exact (bneE hg183 (hr164.det2 hr58)).elim) | (exact absurd (hr164.det2 hr58) hp183) | (exact absurd (hr164.det2 hr58) (of_decide_eq_false hg183)) | (exact (bneE hg183 (hr164.det3 hr58)).elim) | (exact absurd (hr164.det3 hr58) hp183) | (exact absurd (hr164.det3 hr58) (of_decide_eq_false hg183)) | (exact (bneE hg183 (hr77.det1 hr58)).elim) | (exact absurd (hr77.det1 hr58) hp183) | (exact absurd (hr77.det1 hr58) (of_decide_eq_false hg183)) | (exact (bneE hg183 (hr77.det2 hr58)).elim) | (exact absurd (hr77.det2 hr58) hp183) | (exact absurd (hr77.det2 hr58) (of_decide_eq_false hg183)) | (exact (bneE hg183 (hr77.det3 hr58)).elim) | (exact absurd (hr77.det3 hr58) hp183) | (exact absurd (hr77.det3 hr58) (of_decide_eq_false hg183)) | (exact (tfX hg183).elim) | (exact (decF hg183).elim) | (exfalso; omega)

set_option maxRecDepth 100000 in
theorem PullNodes_spec {loA hiA : Nat} (nA : NA) (A : Net) {loB hiB : Nat} (nB : NA) (B : Net) {lom him : Nat} (am : Option Addr) (cm : Nat) (m : List Int) {lol hil : Nat} (al : Option Addr) (cl : Nat) (l : List Int) (w : World) (hA : IsNet loA hiA w nA A) (hhiA : hiA ≤ w.heap.size) (hnA : totN A ≤ 1048576) (hB : IsNet loB hiB w nB B) (hhiB : hiB ≤ w.heap.size) (hnB : totN B ≤ 1048576) (hm : Ints lom him w am cm m) (hhim : him ≤ w.heap.size) (hnm : m.length ≤ 1048576) (hl : Ints lol hil w al cl l) (hhil : hil ≤ w.heap.size) (hnl : l.length ≤ 1048576) :
    Fn Try.prog 42 #[netV nA A, netV nB B, .slice am m.length cm, .slice al l.length cl] w (fun o9 w' => ∃ a' c' ys q, o9 = .tuple #[.slice a' ys.length c', VB q] ∧ RV [] (opt ((NOk A ∧ NOk B ∧ IsPM A B m) ∧ (l.length : Int) = B.ends.length) (thr l m)) ys q ∧ OwnH w.heap.size w'.heap.size 0 0 w' 3 1 a' ys.length c' (ys.map VI) ∧ ys.length ≤ 1048576 ∧ Ext w w') := by
  have hqA := totL_len A.ends
  have hmA : totL A.ends + A.ids.length + A.inputs.length ≤ 1048576 := hnA
  have hqB := totL_len B.ends
  have hmB : totL B.ends + B.ids.length + B.inputs.length ≤ 1048576 := hnB
  have htl := thr_len l m
  have hE := Ext.refl w
  refine Fn_of Try.func42 rfl rfl (by kernel_rfl) rfl ?_
  refine W_seq ?_
  refine W_region ?_
  refine WL_m rfl (ev_box rfl) ?_
  rintro _ w4 ⟨rfl, hN4⟩
  have hz4 := hN4.size
  replace hE := hE.trans hN4.ext
  replace hA := hA.ext hN4.ext
  replace hB := hB.ext hN4.ext
  replace hm := hm.ext hN4.ext
  replace hl := hl.ext hN4.ext
  have hB4 : Blk w4 _ _ [_, _, _] := hN4.blk
  refine WL_m rfl (ev_box rfl) ?_
  rintro _ w5 ⟨rfl, hN5⟩
  have hz5 := hN5.size
  replace hE := hE.trans hN5.ext
  replace hA := hA.ext hN5.ext
  replace hB := hB.ext hN5.ext
  replace hm := hm.ext hN5.ext
  replace hl := hl.ext hN5.ext
  replace hB4 := hB4.ext hN5.ext
  have hB5 : Blk w5 _ _ [_, _, _] := hN5.blk
  refine WL_q rfl (ev_assign rfl) ?_
  refine WL_q rfl (ev_assign rfl) ?_
  refine WL_nil ?_
  refine thenE_n ?_
  refine W_seq ?_
  refine W_seq ?_
  refine W_region ?_
  refine WL_q rfl (ev_loads st31 sz31 rfl (cellsB hB4) rfl) ?_
  refine WL_q rfl (ev_loads st31 sz31 rfl (cellsB hB5) rfl) ?_
  refine WL_q rfl (ev_move rfl) ?_
  refine WL_m rfl (ev_call rfl (mapOk_spec _ _ _ _ _ _ _ _ (by assumption) (by assumption) (by assumption) (by omega) (by omega) (by omega) (by omega) (by omega) (by omega))) ?_
  rintro _ w16 ⟨b16, rfl, hb16, hE16⟩
  have hz16 := hE16.size
  replace hE := hE.trans hE16
  replace hA := hA.ext hE16
  replace hB := hB.ext hE16
  replace hm := hm.ext hE16
  replace hl := hl.ext hE16
  replace hB4 := hB4.ext hE16
  replace hB5 := hB5.ext hE16
  refine WL_q rfl (ev_not rfl) ?_
  refine WL_q rfl (ev_move rfl) ?_
  refine WL_splitv (t := 18) rfl (fun hg17 => ?_) (fun hg17 => ?_)
  · have hg16 := not_true hg17
    have hp16 := ttN hb16 hg16
    refine WL_no rfl rfl hg17 rfl ?_
    refine WL_no rfl rfl hg17 rfl ?_
    refine WL_no rfl rfl hg17 rfl ?_
    refine WL_no rfl rfl hg17 rfl ?_
    refine WL_no rfl rfl hg17 rfl ?_
    refine WL_no rfl rfl hg17 rfl ?_
    refine WL_q rfl (ev_pick_t rfl hg17 rfl) ?_
    refine WL_nil ?_
    refine thenE_n ?_
    refine W_cond_t rfl ?_
    refine W_seq ?_
    refine W_region ?_
    refine WL_q rfl (ev_assign rfl) ?_
    refine WL_q rfl (ev_assign rfl) ?_
    refine WL_nil ?_
    refine thenE_n ?_
    refine W_ret ?_
    refine thenE_r ?_
    refine ret2 rfl rfl rfl ?_
    first | (exact ⟨none, 0, [], _, rfl, .no (fun h => hp16 h.1), OwnH.nil, by simp, hE⟩) | (exact ⟨none, 0, [], _, rfl, .no (fun h => hp24 h.2), OwnH.nil, by simp, hE⟩) | (have hi9 : i = (thr l m).length := (by omega); subst hi9; exact ⟨_, _, _, _, rfl, .yes ⟨hp16, by omega⟩ rfl, by rw [List.take_length] at hO; exact hO.up (by omega) (Nat.le_refl _), by omega, hE⟩)
  · have hg16 := not_false hg17
    have hp16 := hb16.1 hg16
    refine WL_qg rfl rfl hg17 rfl (ev_move rfl) ?_
    refine WL_qg rfl rfl hg17 rfl (ev_len Try.underlying23 rfl) ?_
    refine WL_qg rfl rfl hg17 rfl (ev_fieldAddr fo31_0 rfl) ?_
    refine WL_qg rfl rfl hg17 rfl (ev_load one29 rfl (hB5.cell rfl)) ?_
    refine WL_qg rfl rfl hg17 rfl (ev_len Try.underlying29 rfl) ?_
    refine WL_qg rfl rfl hg17 rfl (ev_neq rfl rfl) ?_
    refine WL_q rfl (ev_pick_f rfl hg17 rfl) ?_
    refine WL_nil ?_
    refine thenE_n ?_
    refine W_cond rfl (fun hg24 => ?_) (fun hg24 => ?_)
    · have hp24 := of_decide_eq_true hg24
      refine W_seq ?_
      refine W_region ?_
      refine WL_q rfl (ev_assign rfl) ?_
      refine WL_q rfl (ev_assign rfl) ?_
      refine WL_nil ?_
      refine thenE_n ?_
      refine W_ret ?_
      refine thenE_r ?_
      refine ret2 rfl rfl rfl ?_
      first | (exact ⟨none, 0, [], _, rfl, .no (fun h => hp16 h.1), OwnH.nil, by simp, hE⟩) | (exact ⟨none, 0, [], _, rfl, .no (fun h => hp24 h.2), OwnH.nil, by simp, hE⟩) | (have hi9 : i = (thr l m).length := (by omega); subst hi9; exact ⟨_, _, _, _, rfl, .yes ⟨hp16, by omega⟩ rfl, by rw [List.take_length] at hO; exact hO.up (by omega) (Nat.le_refl _), by omega, hE⟩)
    · have hp24 := of_decide_eq_false hg24
      refine W_skip ?_
      refine thenE_n ?_
      refine W_seq ?_
      refine W_region ?_
      refine WL_q rfl (ev_assign rfl) ?_
      refine WL_nil ?_
      refine thenE_n ?_
      refine W_seq ?_
      refine W_seq ?_
      refine W_region ?_
      refine WL_q rfl (ev_move rfl) ?_
      refine WL_q rfl (ev_len Try.underlying23 rfl) ?_
      refine WL_q rfl (ev_move rfl) ?_
      refine WL_nil ?_
      refine thenE_n ?_
      refine W_block ?_
      refine W_loopC (G := Nat × Option Addr × Nat) [(3, _), (26, _), (27, _)] ((Subs.c rfl (Subs.c rfl (Subs.c rfl Subs.n)))) (fun ⟨i, a, c⟩ => [(10, .slice a i c), (28, VI (i : Int))]) (fun ⟨i, a, c⟩ w' => Ext w16 w' ∧ i ≤ m.length ∧ OwnH w16.heap.size w'.heap.size 0 0 w' 3 1 a i c (((thr l m).take i).map VI)) (fun g => m.length - g.1) (0, none, 0) ((Subs.c rfl (Subs.c (lkI rfl (by omega)) Subs.n))) (⟨Ext.refl _, ⟨by omega, OwnH.nil⟩⟩) ?_
      rintro ⟨i, a, c⟩ wL0 ⟨hRL0, hi', hO⟩
      have hzL0 := hRL0.size
      replace hE := hE.trans hRL0
      replace hA := hA.ext hRL0
      replace hB := hB.ext hRL0
      replace hm := hm.ext hRL0
      replace hl := hl.ext hRL0
      replace hB4 := hB4.ext hRL0
      replace hB5 := hB5.ext hRL0
      refine W_seq ?_
      refine W_region ?_
      refine WL_q rfl (ev_lss rfl rfl) ?_
      refine WL_nil ?_
      refine thenE_n ?_
      refine W_seq ?_
      refine W_cond rfl (fun hg29 => ?_) (fun hg29 => ?_)
      · have hp29 := of_decide_eq_true hg29
        refine W_skip ?_
        refine thenE_n ?_
        refine W_seq ?_
        refine W_block ?_
        refine W_seq ?_
        refine W_region ?_
        have hlt : i < m.length := by omega
        have hrg := hp16.2.2.to hlt
        have hr1 := hrg.1
        have hr2 := hrg.2
        refine WL_q rfl (ev_indexAddr Try.underlying23 sz3 rfl rfl (hm.isSome (by omega)) (by omega) (by omega)) ?_
        refine WL_q rfl (ev_load one3 rfl (hm.cell (i := i) (by omega))) ?_
        refine WL_q rfl (ev_assign rfl) ?_
        refine WL_nil ?_
        refine thenE_n ?_
        refine W_region ?_
        refine WL_q rfl (ev_move rfl) ?_
        refine WL_q rfl (ev_move rfl) ?_
        refine WL_q rfl (ev_move rfl) ?_
        refine WL_q rfl (ev_indexAddr Try.underlying23 sz3 rfl rfl (hl.isSome (by omega)) (by omega) (by omega)) ?_
        refine WL_q rfl (ev_load one3 rfl (hl.cell (i := m[i].toNat) (by omega))) ?_
        refine WL_m rfl (ev_lit1 Try.underlying23 el3 (by decide) (by decide) rfl rfl) ?_
        rintro _ w37 ⟨rfl, hN37⟩
        have hz37 := hN37.size
        replace hE := hE.trans hN37.ext
        replace hRL0 := hRL0.trans hN37.ext
        replace hA := hA.ext hN37.ext
        replace hB := hB.ext hN37.ext
        replace hm := hm.ext hN37.ext
        replace hl := hl.ext hN37.ext
        replace hB4 := hB4.ext hN37.ext
        replace hB5 := hB5.ext hN37.ext
        replace hO := hO.ext hN37.ext
        have hB37 := hN37.blk
        refine WL_m rfl (ev_appendT Try.underlying23 el3 rfl (by decide) rfl rfl hO (SAt.of_blk (cs := [_]) (ds := []) hB37) rfl (by simp [Value.oneCell']) (by omega) (by unfold maxLen; omega) (by omega)) ?_
        rintro _ w38 ⟨a38, c38, rfl, hO38, hK38, hQ38⟩
        have hz38 := hK38.size
        replace hE := hE.rg hK38 (by omega)
        replace hRL0 := hRL0.rg hK38 (by omega)
        replace hA := hA.rg hK38 (by omega)
        replace hB := hB.rg hK38 (by omega)
        replace hm := hm.rg hK38 (by omega)
        replace hl := hl.rg hK38 (by omega)
        replace hB4 := hB4.rg hK38 (by omega)
        replace hB5 := hB5.rg hK38 (by omega)
        replace hB37 := hB37.rg hK38 (by omega)
        replace hO := hO38
        replace hO := ownt_snocI hO
        refine WL_q rfl (ev_assign rfl) ?_
        refine WL_nil ?_
        refine blockE_n ?_
        refine thenE_n ?_
        refine W_region ?_
        refine WL_q rfl (ev_add rfl rfl (by omega)) ?_
        refine WL_q rfl (ev_move rfl) ?_
        refine WL_nil ?_
        refine thenE_n ?_
        exact ⟨(i + 1, a38, c38), (Subs.c rfl (Subs.c rfl (Subs.c rfl Subs.n))), (Subs.c rfl (Subs.c (lkI rfl (by omega)) Subs.n)), ⟨hRL0, ⟨by omega, (ownt_take hO (by omega) (thr_at hlt (h2 := by omega) (by omega))).up (Nat.le_refl _) (by omega)⟩⟩, by first | omega | (dsimp only; omega)⟩
      · have hp29 := of_decide_eq_false hg29
        refine W_exit ?_
        refine thenE_x ?_
        refine thenE_x ?_
        refine blockE_hit ?_
        refine thenE_n ?_
        refine W_seq ?_
        refine W_region ?_
        refine WL_q rfl (ev_move rfl) ?_
        refine WL_q rfl (ev_assign rfl) ?_
        refine WL_q rfl (ev_assign rfl) ?_
        refine WL_nil ?_
        refine thenE_n ?_
        refine W_ret ?_
        refine ret2 rfl rfl rfl ?_
        first | (exact ⟨none, 0, [], _, rfl, .no (fun h => hp16 h.1), OwnH.nil, by simp, hE⟩) | (exact ⟨none, 0, [], _, rfl, .no (fun h => hp24 h.2), OwnH.nil, by simp, hE⟩) | (have hi9 : i = (thr l m).length := (by omega); subst hi9; exact ⟨_, _, _, _, rfl, .yes ⟨hp16, by omega⟩ rfl, by rw [List.take_length] at hO; exact hO.up (by omega) (Nat.le_refl _), by omega, hE⟩)

set_option maxRecDepth 100000 in
theorem sPullNodes_spec {loA hiA : Nat} (nA : NA) (A : Net) {loB hiB : Nat} (nB : NA) (B : Net) {lom him : Nat} (am : Option Addr) (cm : Nat) (m : List Int) {lol hil : Nat} (al : Option Addr) (cl : Nat) (l : List Int) (w : World) (hA : IsNet loA hiA w nA A) (hhiA : hiA ≤ w.heap.size) (hnA : totN A ≤ 1048576) (hB : IsNet loB hiB w nB B) (hhiB : hiB ≤ w.heap.size) (hnB : totN B ≤ 1048576) (hm : Ints lom him w am cm m) (hhim : him ≤ w.heap.size) (hnm : m.length ≤ 1048576) (hl : Ints lol hil w al cl l) (hhil : hil ≤ w.heap.size) (hnl : l.length ≤ 1048576) :
    Fn Try.prog 41 #[netV nA A, netV nB B, .slice am m.length cm, .slice al l.length cl] w (fun o9 w' => ∃ a' c' ys q, o9 = .tuple #[.slice a' ys.length c', VB q] ∧ RV [] (opt ((NOk A ∧ NOk B ∧ IsPM A B m) ∧ (l.length : Int) = B.ends.length) (thr l m)) ys q ∧ Ints 0 w'.heap.size w' a' c' ys ∧ ys.length ≤ 1048576 ∧ Ext w w') := by
  have hqA := totL_len A.ends
  have hmA : totL A.ends + A.ids.length + A.inputs.length ≤ 1048576 := hnA
  have hqB := totL_len B.ends
  have hmB : totL B.ends + B.ids.length + B.inputs.length ≤ 1048576 := hnB
  have htl := thr_len l m
  have hE := Ext.refl w
  refine Fn_of Try.func41 rfl rfl (by kernel_rfl) rfl ?_
  refine W_seq ?_
  refine W_region ?_
  refine WL_m rfl (ev_box rfl) ?_
  rintro _ w4 ⟨rfl, hN4⟩
  have hz4 := hN4.size
  replace hE := hE.trans hN4.ext
  replace hA := hA.ext hN4.ext
  replace hB := hB.ext hN4.ext
  replace hm := hm.ext hN4.ext
  replace hl := hl.ext hN4.ext
  have hB4 : Blk w4 _ _ [_, _, _] := hN4.blk
  refine WL_m rfl (ev_box rfl) ?_
  rintro _ w5 ⟨rfl, hN5⟩
  have hz5 := hN5.size
  replace hE := hE.trans hN5.ext
  replace hA := hA.ext hN5.ext
  replace hB := hB.ext hN5.ext
  replace hm := hm.ext hN5.ext
  replace hl := hl.ext hN5.ext
  replace hB4 := hB4.ext hN5.ext
  have hB5 : Blk w5 _ _ [_, _, _] := hN5.blk
  refine WL_q rfl (ev_assign rfl) ?_
  refine WL_q rfl (ev_assign rfl) ?_
  refine WL_nil ?_
  refine thenE_n ?_
  refine W_seq ?_
  refine W_seq ?_
  refine W_region ?_
  refine WL_q rfl (ev_loads st31 sz31 rfl (cellsB hB4) rfl) ?_
  refine WL_q rfl (ev_loads st31 sz31 rfl (cellsB hB5) rfl) ?_
  refine WL_q rfl (ev_move rfl) ?_
  refine WL_m rfl (ev_call rfl (coAsked_spec _ _ _ _ _ _ _ _ (by assumption) (by assumption) (by assumption) (by omega) (by omega) (by omega) (by omega) (by omega) (by omega))) ?_
  rintro _ w13 ⟨b13, rfl, hb13, hE13⟩
  have hz13 := hE13.size
  replace hE := hE.trans hE13
  replace hA := hA.ext hE13
  replace hB := hB.ext hE13
  replace hm := hm.ext hE13
  replace hl := hl.ext hE13
  replace hB4 := hB4.ext hE13
  replace hB5 := hB5.ext hE13
  refine WL_q rfl (ev_not rfl) ?_
  refine WL_q rfl (ev_move rfl) ?_
  refine WL_splitv (t := 15) rfl (fun hg14 => ?_) (fun hg14 => ?_)
  · have hg13 := not_true hg14
    have hp13 := ttN hb13 hg13
    refine WL_no rfl rfl hg14 rfl ?_
    refine WL_no rfl rfl hg14 rfl ?_
    refine WL_no rfl rfl hg14 rfl ?_
    refine WL_no rfl rfl hg14 rfl ?_
    refine WL_no rfl rfl hg14 rfl ?_
    refine WL_no rfl rfl hg14 rfl ?_
    refine WL_q rfl (ev_pick_t rfl hg14 rfl) ?_
    refine WL_nil ?_
    refine thenE_n ?_
    refine W_cond_t rfl ?_
    refine W_seq ?_
    refine W_region ?_
    refine WL_q rfl (ev_assign rfl) ?_
    refine WL_q rfl (ev_assign rfl) ?_
    refine WL_nil ?_
    refine thenE_n ?_
    refine W_ret ?_
    refine thenE_r ?_
    refine ret2 rfl rfl rfl ?_
    first | (exact ⟨none, 0, [], _, rfl, .no (fun h => hp13 h.1), Ints.nil, by simp, hE⟩) | (exact ⟨none, 0, [], _, rfl, .no (fun h => hp21 h.2), Ints.nil, by simp, hE⟩) | (exact ⟨_, _, _, true, rfl, .yes ⟨hp13, by omega⟩ rfl, (own_i hO25).mono (Nat.zero_le _) (Nat.le_refl _), by omega, hE⟩)
  · have hg13 := not_false hg14
    have hp13 := hb13.1 hg13
    refine WL_qg rfl rfl hg14 rfl (ev_move rfl) ?_
    refine WL_qg rfl rfl hg14 rfl (ev_len Try.underlying23 rfl) ?_
    refine WL_qg rfl rfl hg14 rfl (ev_fieldAddr fo31_0 rfl) ?_
    refine WL_qg rfl rfl hg14 rfl (ev_load one29 rfl (hB5.cell rfl)) ?_
    refine WL_qg rfl rfl hg14 rfl (ev_len Try.underlying29 rfl) ?_
    refine WL_qg rfl rfl hg14 rfl (ev_neq rfl rfl) ?_
    refine WL_q rfl (ev_pick_f rfl hg14 rfl) ?_
    refine WL_nil ?_
    refine thenE_n ?_
    refine W_cond rfl (fun hg21 => ?_) (fun hg21 => ?_)
    · have hp21 := of_decide_eq_true hg21
      refine W_seq ?_
      refine W_region ?_
      refine WL_q rfl (ev_assign rfl) ?_
      refine WL_q rfl (ev_assign rfl) ?_
      refine WL_nil ?_
      refine thenE_n ?_
      refine W_ret ?_
      refine thenE_r ?_
      refine ret2 rfl rfl rfl ?_
      first | (exact ⟨none, 0, [], _, rfl, .no (fun h => hp13 h.1), Ints.nil, by simp, hE⟩) | (exact ⟨none, 0, [], _, rfl, .no (fun h => hp21 h.2), Ints.nil, by simp, hE⟩) | (exact ⟨_, _, _, true, rfl, .yes ⟨hp13, by omega⟩ rfl, (own_i hO25).mono (Nat.zero_le _) (Nat.le_refl _), by omega, hE⟩)
    · have hp21 := of_decide_eq_false hg21
      refine W_skip ?_
      refine thenE_n ?_
      refine W_seq ?_
      refine W_region ?_
      refine WL_q rfl (ev_move rfl) ?_
      refine WL_q rfl (ev_move rfl) ?_
      have hr9 : ∀ i (h : i < m.length), 0 ≤ m[i] ∧ m[i].toNat < l.length := fun i h => by have := hp13.2.2.to h; omega
      refine WL_m rfl (ev_call rfl (coThrough_spec _ _ l _ _ m _ hl (by omega) (by omega) hm (by omega) (by omega) (by assumption))) ?_
      rintro _ w25 ⟨a25, c25, rfl, hO25, hE25⟩
      have hz25 := hE25.size
      replace hE := hE.trans hE25
      replace hA := hA.ext hE25
      replace hB := hB.ext hE25
      replace hm := hm.ext hE25
      replace hl := hl.ext hE25
      replace hB4 := hB4.ext hE25
      replace hB5 := hB5.ext hE25
      refine WL_q rfl (ev_assign rfl) ?_
      refine WL_q rfl (ev_assign rfl) ?_
      refine WL_nil ?_
      refine thenE_n ?_
      refine W_ret ?_
      refine ret2 rfl rfl rfl ?_
      first | (exact ⟨none, 0, [], _, rfl, .no (fun h => hp13 h.1), Ints.nil, by simp, hE⟩) | (exact ⟨none, 0, [], _, rfl, .no (fun h => hp21 h.2), Ints.nil, by simp, hE⟩) | (exact ⟨_, _, _, true, rfl, .yes ⟨hp13, by omega⟩ rfl, (own_i hO25).mono (Nat.zero_le _) (Nat.le_refl _), by omega, hE⟩)

set_option maxHeartbeats 8000000 in
set_option maxRecDepth 100000 in
theorem law_PullNodes (nA : NA) (A : Net) (nB : NA) (B : Net) (am : Option Addr) (cm : Nat) (m : List Int) (al : Option Addr) (cl : Nat) (l : List Int) (w : World) (hA : IsNet 0 w.heap.size w nA A) (hsA : SmN A) (hB : IsNet 0 w.heap.size w nB B) (hsB : SmN B) (hm : Ints 0 w.heap.size w am cm m) (hl : Ints 0 w.heap.size w al cl l) :
    Fn Try.prog 12 #[netV nA A, netV nB B, .slice am m.length cm, .slice al l.length cl] w (fun v w' => v = VB true ∧ Ext w w') := by
  have hE := Ext.refl w
  refine Fn_of Try.func12 rfl rfl (by kernel_rfl) rfl ?_
  refine W_seq ?_
  refine W_region ?_
  refine WL_m rfl (ev_box rfl) ?_
  rintro _ w4 ⟨rfl, hN4⟩
  have hz4 := hN4.size
  replace hE := hE.trans hN4.ext
  replace hA := hA.ext hN4.ext
  replace hB := hB.ext hN4.ext
  replace hm := hm.ext hN4.ext
  replace hl := hl.ext hN4.ext
  have hB4 : Blk w4 _ _ [_, _, _] := hN4.blk
  refine WL_m rfl (ev_box rfl) ?_
  rintro _ w5 ⟨rfl, hN5⟩
  have hz5 := hN5.size
  replace hE := hE.trans hN5.ext
  replace hA := hA.ext hN5.ext
  replace hB := hB.ext hN5.ext
  replace hm := hm.ext hN5.ext
  replace hl := hl.ext hN5.ext
  replace hB4 := hB4.ext hN5.ext
  have hB5 : Blk w5 _ _ [_, _, _] := hN5.blk
  refine WL_q rfl (ev_assign rfl) ?_
  refine WL_nil ?_
  refine thenE_n ?_
  refine W_seq ?_
  refine W_seq ?_
  refine W_region ?_
  refine WL_q rfl (ev_move rfl) ?_
  refine WL_q rfl (ev_len Try.underlying23 rfl) ?_
  refine WL_q rfl (ev_gtr rfl rfl) ?_
  refine WL_nil ?_
  refine thenE_n ?_
  refine W_cond rfl (fun hg25 => ?_) (fun hg25 => ?_)
  · have hp25 := of_decide_eq_true hg25
    refine W_seq ?_
    refine W_region ?_
    refine WL_q rfl (ev_assign rfl) ?_
    refine WL_nil ?_
    refine thenE_n ?_
    refine W_ret ?_
    refine thenE_r ?_
    refine ret1 rfl rfl ?_
    first | (exact ⟨rfl, hE⟩) | (exact (tfX hg25).elim) | (exact (decF hg25).elim) | (exfalso; omega)
  · have hp25 := of_decide_eq_false hg25
    refine W_skip ?_
    refine thenE_n ?_
    refine W_seq ?_
    refine W_seq ?_
    refine W_region ?_
    refine WL_q rfl (ev_move rfl) ?_
    refine WL_q rfl (ev_len Try.underlying23 rfl) ?_
    refine WL_q rfl (ev_gtr rfl rfl) ?_
    refine WL_nil ?_
    refine thenE_n ?_
    refine W_cond rfl (fun hg28 => ?_) (fun hg28 => ?_)
    · have hp28 := of_decide_eq_true hg28
      refine W_seq ?_
      refine W_region ?_
      refine WL_q rfl (ev_assign rfl) ?_
      refine WL_nil ?_
      refine thenE_n ?_
      refine W_ret ?_
      refine thenE_r ?_
      refine ret1 rfl rfl ?_
      first | (exact ⟨rfl, hE⟩) | (exact (tfX hg28).elim) | (exact (decF hg28).elim) | (exfalso; omega)
    · have hp28 := of_decide_eq_false hg28
      refine W_skip ?_
      refine thenE_n ?_
      refine W_seq ?_
      refine W_region ?_
      refine WL_q rfl (ev_assign rfl) ?_
      refine WL_nil ?_
      refine thenE_n ?_
      refine W_seq ?_
      refine W_region ?_
      refine WL_q rfl (ev_loads st25 sz25 rfl (cellsB hB4) rfl) ?_
      refine WL_q rfl (ev_move rfl) ?_
      refine WL_m rfl (ev_call rfl (szNetwork_spec _ A _ _ hA (by omega) hsA)) ?_
      rintro _ w31 ⟨r31, rfl, hE31, hr31⟩
      have hz31 := hE31.size
      replace hE := hE.trans hE31
      replace hA := hA.ext hE31
      replace hB := hB.ext hE31
      replace hm := hm.ext hE31
      replace hl := hl.ext hE31
      replace hB4 := hB4.ext hE31
      replace hB5 := hB5.ext hE31
      refine WL_q rfl (ev_assign rfl) ?_
      refine WL_nil ?_
      refine thenE_n ?_
      refine W_seq ?_
      refine W_seq ?_
      refine W_region ?_
      refine WL_q rfl (ev_move rfl) ?_
      refine WL_q rfl (ev_lss rfl rfl) ?_
      refine WL_nil ?_
      refine thenE_n ?_
      refine W_cond rfl (fun hg33 => ?_) (fun hg33 => ?_)
      · have hp33 := of_decide_eq_true hg33
        refine W_seq ?_
        refine W_region ?_
        refine WL_q rfl (ev_assign rfl) ?_
        refine WL_nil ?_
        refine thenE_n ?_
        refine W_ret ?_
        refine thenE_r ?_
        refine ret1 rfl rfl ?_
        first | (exact ⟨rfl, hE⟩) | (exact (tfX hg33).elim) | (exact (decF hg33).elim) | (exfalso; omega)
      · have hp33 := of_decide_eq_false hg33
        refine W_skip ?_
        refine thenE_n ?_
        refine W_seq ?_
        refine W_region ?_
        refine WL_q rfl (ev_loads st25 sz25 rfl (cellsB hB5) rfl) ?_
        refine WL_q rfl (ev_move rfl) ?_
        refine WL_m rfl (ev_call rfl (szNetwork_spec _ B _ _ hB (by omega) hsB)) ?_
        rintro _ w36 ⟨r36, rfl, hE36, hr36⟩
        have hz36 := hE36.size
        replace hE := hE.trans hE36
        replace hA := hA.ext hE36
        replace hB := hB.ext hE36
        replace hm := hm.ext hE36
        replace hl := hl.ext hE36
        replace hB4 := hB4.ext hE36
        replace hB5 := hB5.ext hE36
        refine WL_q rfl (ev_assign rfl) ?_
        refine WL_nil ?_
        refine thenE_n ?_
        refine W_seq ?_
        refine W_seq ?_
        refine W_region ?_
        refine WL_q rfl (ev_move rfl) ?_
        refine WL_q rfl (ev_lss rfl rfl) ?_
        refine WL_nil ?_
        refine thenE_n ?_
        refine W_cond rfl (fun hg38 => ?_) (fun hg38 => ?_)
        · have hp38 := of_decide_eq_true hg38
          refine W_seq ?_
          refine W_region ?_
          refine WL_q rfl (ev_assign rfl) ?_
          refine WL_nil ?_
          refine thenE_n ?_
          refine W_ret ?_
          refine thenE_r ?_
          refine ret1 rfl rfl ?_
          first | (exact ⟨rfl, hE⟩) | (exact (tfX hg38).elim) | (exact (decF hg38).elim) | (exfalso; omega)
        · have hp38 := of_decide_eq_false hg38
          refine W_skip ?_
          refine thenE_n ?_
          refine W_seq ?_
          refine W_drawE [(0, true), (2, true), (4, true), (6, true), (1, false), (3, false), (5, false), (7, false), (8, false), (9, true), (10, true), (11, true), (12, true), (13, true)] mixed (by kernel_rfl) rfl (by kernel_rfl) ?_
          intro wd12 hEd12 hzd12
          replace hE := hE.trans hEd12
          replace hA := hA.ext hEd12
          replace hB := hB.ext hEd12
          replace hm := hm.ext hEd12
          replace hl := hl.ext hEd12
          replace hB4 := hB4.ext hEd12
          replace hB5 := hB5.ext hEd12
          have hDd12 := Ext.refl wd12
          refine PW_q rfl rfl (fun wq hq => ev_loads st25 sz25 rfl (cellsB (hq.blk hB4)) rfl) ?_
          refine PW_q rfl rfl (fun wq hq => ev_loads st25 sz25 rfl (cellsB (hq.blk hB5)) rfl) ?_
          refine PW_q rfl rfl (fun wq hq => ev_move rfl) ?_
          refine PW_q rfl rfl (fun wq hq => ev_move rfl) ?_
          refine PW_m rfl rfl (ev_call rfl (toNetwork_spec _ A _ hA (by omega) (by omega))) ?_
          rintro _ w41 ⟨h41, rfl, hF41, hE41⟩
          have hz41 := hE41.size
          replace hE := hE.trans hE41
          replace hDd12 := hDd12.trans hE41
          have hN41 := hF41.is
          refine ⟨hDd12, ?_⟩
          have hA_3 := hA.ext hDd12
          have hB_3 := hB.ext hDd12
          have hm_3 := hm.ext hDd12
          have hl_3 := hl.ext hDd12
          have hB4_3 := hB4.ext hDd12
          have hB5_3 := hB5.ext hDd12
          refine PW_m rfl rfl (ev_call rfl (toNetwork_spec _ B _ hB_3 (by omega) (by omega))) ?_
          rintro _ w43 ⟨h43, rfl, hF43, hE43⟩
          have hz43 := hE43.size
          replace hE := hE.trans hE43
          replace hDd12 := hDd12.trans hE43
          replace hF41 := hF41.ext hE43
          replace hN41 := hN41.ext hE43
          have hN43 := hF43.is
          refine ⟨hDd12, ?_⟩
          have hA_5 := hA.ext hDd12
          have hB_5 := hB.ext hDd12
          have hm_5 := hm.ext hDd12
          have hl_5 := hl.ext hDd12
          have hB4_5 := hB4.ext hDd12
          have hB5_5 := hB5.ext hDd12
          refine PW_m rfl rfl (ev_call rfl (toIntS_spec _ _ m _ hm_5 (by omega) (by omega))) ?_
          rintro _ w45 ⟨a45, rfl, hF45, hE45⟩
          have hz45 := hE45.size
          replace hE := hE.trans hE45
          replace hDd12 := hDd12.trans hE45
          replace hF41 := hF41.ext hE45
          replace hN41 := hN41.ext hE45
          replace hF43 := hF43.ext hE45
          replace hN43 := hN43.ext hE45
          have hI45 := hF45.is
          refine ⟨hDd12, ?_⟩
          have hA_7 := hA.ext hDd12
          have hB_7 := hB.ext hDd12
          have hm_7 := hm.ext hDd12
          have hl_7 := hl.ext hDd12
          have hB4_7 := hB4.ext hDd12
          have hB5_7 := hB5.ext hDd12
          refine PW_m rfl rfl (ev_call rfl (toIntS_spec _ _ l _ hl_7 (by omega) (by omega))) ?_
          rintro _ w47 ⟨a47, rfl, hF47, hE47⟩
          have hz47 := hE47.size
          replace hE := hE.trans hE47
          replace hDd12 := hDd12.trans hE47
          replace hF41 := hF41.ext hE47
          replace hN41 := hN41.ext hE47
          replace hF43 := hF43.ext hE47
          replace hN43 := hN43.ext hE47
          replace hF45 := hF45.ext hE47
          replace hI45 := hI45.ext hE47
          have hI47 := hF47.is
          refine ⟨hDd12, ?_⟩
          have hA_8 := hA.ext hDd12
          have hB_8 := hB.ext hDd12
          have hm_8 := hm.ext hDd12
          have hl_8 := hl.ext hDd12
          have hB4_8 := hB4.ext hDd12
          have hB5_8 := hB5.ext hDd12
          refine PW_m rfl rfl (ev_call rfl (sPullNodes_spec _ A _ B _ _ m _ _ l _ hN41 (by omega) (by omega) hN43 (by omega) (by omega) hI45 (by omega) (by omega) hI47 (by omega) (by omega))) ?_
          rintro _ w48 ⟨a48, c48, y48, q48, rfl, hr48, hx48, hl48, hE48⟩
          have hz48 := hE48.size
          replace hE := hE.trans hE48
          replace hDd12 := hDd12.trans hE48
          replace hF41 := hF41.ext hE48
          replace hN41 := hN41.ext hE48
          replace hF43 := hF43.ext hE48
          replace hN43 := hN43.ext hE48
          replace hF45 := hF45.ext hE48
          replace hI45 := hI45.ext hE48
          replace hF47 := hF47.ext hE48
          replace hI47 := hI47.ext hE48
          refine ⟨hDd12, ?_⟩
          refine PW_q rfl rfl (fun wq hq => ev_move rfl) ?_
          refine PW_q rfl rfl (fun wq hq => ev_extract rfl rfl) ?_
          refine PW_q rfl rfl (fun wq hq => ev_extract rfl rfl) ?_
          refine PW_q rfl rfl (fun wq hq => ev_assign rfl) ?_
          refine PW_q rfl rfl (fun wq hq => ev_assign rfl) ?_
          replace hA := hA.ext hDd12
          replace hB := hB.ext hDd12
          replace hm := hm.ext hDd12
          replace hl := hl.ext hDd12
          replace hB4 := hB4.ext hDd12
          replace hB5 := hB5.ext hDd12
          refine PW_nil ?_
          refine thenE_n ?_
          refine W_seq ?_
          refine W_region ?_
          refine WL_q rfl (ev_loads st25 sz25 rfl (cellsB hB4) rfl) ?_
          refine WL_m rfl (ev_call rfl (toNetwork_spec _ A _ hA (by omega) (by omega))) ?_
          rintro _ w52 ⟨h52, rfl, hF52, hE52⟩
          have hz52 := hE52.size
          replace hE := hE.trans hE52
          replace hA := hA.ext hE52
          replace hB := hB.ext hE52
          replace hm := hm.ext hE52
          replace hl := hl.ext hE52
          replace hB4 := hB4.ext hE52
          replace hB5 := hB5.ext hE52
          replace hF41 := hF41.ext hE52
          replace hN41 := hN41.ext hE52
          replace hF43 := hF43.ext hE52
          replace hN43 := hN43.ext hE52
          replace hF45 := hF45.ext hE52
          replace hI45 := hI45.ext hE52
          replace hF47 := hF47.ext hE52
          replace hI47 := hI47.ext hE52
          replace hx48 := hx48.ext hE52
          have hN52 := hF52.is
          refine WL_m rfl (ev_alloc zr31) ?_
          rintro _ w12 ⟨rfl, hN12⟩
          have hz12 := hN12.size
          replace hE := hE.trans hN12.ext
          replace hA := hA.ext hN12.ext
          replace hB := hB.ext hN12.ext
          replace hm := hm.ext hN12.ext
          replace hl := hl.ext hN12.ext
          replace hB4 := hB4.ext hN12.ext
          replace hB5 := hB5.ext hN12.ext
          replace hF41 := hF41.ext hN12.ext
          replace hN41 := hN41.ext hN12.ext
          replace hF43 := hF43.ext hN12.ext
          replace hN43 := hN43.ext hN12.ext
          replace hF45 := hF45.ext hN12.ext
          replace hI45 := hI45.ext hN12.ext
          replace hF47 := hF47.ext hN12.ext
          replace hI47 := hI47.ext hN12.ext
          replace hx48 := hx48.ext hN12.ext
          replace hF52 := hF52.ext hN12.ext
          replace hN52 := hN52.ext hN12.ext
          have hB12 : Blk w12 _ _ [_, _, _] := hN12.blk
          refine WL_s (ev_stores sz31 rfl rfl rfl (by simp [Value.oneCell']) hB12 (by simp)) ?_
          rintro _ w13_3 hS13_3
          have hz13_3 := hS13_3.size
          replace hE := hE.sto hS13_3 (by omega)
          replace hA := hA.sto hS13_3 (by omega)
          replace hB := hB.sto hS13_3 (by omega)
          replace hm := hm.sto hS13_3 (by omega)
          replace hl := hl.sto hS13_3 (by omega)
          replace hB4 := hB4.sto hS13_3 (by omega)
          replace hB5 := hB5.sto hS13_3 (by omega)
          replace hF41 := hF41.sto hS13_3 (by omega)
          replace hN41 := hN41.sto hS13_3 (by omega)
          replace hF43 := hF43.sto hS13_3 (by omega)
          replace hN43 := hN43.sto hS13_3 (by omega)
          replace hF45 := hF45.sto hS13_3 (by omega)
          replace hI45 := hI45.sto hS13_3 (by omega)
          replace hF47 := hF47.sto hS13_3 (by omega)
          replace hI47 := hI47.sto hS13_3 (by omega)
          replace hx48 := hx48.sto hS13_3 (by omega)
          replace hF52 := hF52.sto hS13_3 (by omega)
          replace hN52 := hN52.sto hS13_3 (by omega)
          replace hB12 : Blk w13_3 _ _ [_, _, _] := hS13_3.blk
          refine WL_nil ?_
          refine thenE_n ?_
          refine W_seq ?_
          refine W_region ?_
          refine WL_q rfl (ev_loads st25 sz25 rfl (cellsB hB5) rfl) ?_
          refine WL_m rfl (ev_call rfl (toNetwork_spec _ B _ hB (by omega) (by omega))) ?_
          rintro _ w54 ⟨h54, rfl, hF54, hE54⟩
          have hz54 := hE54.size
          replace hE := hE.trans hE54
          replace hA := hA.ext hE54
          replace hB := hB.ext hE54
          replace hm := hm.ext hE54
          replace hl := hl.ext hE54
          replace hB4 := hB4.ext hE54
          replace hB5 := hB5.ext hE54
          replace hF41 := hF41.ext hE54
          replace hN41 := hN41.ext hE54
          replace hF43 := hF43.ext hE54
          replace hN43 := hN43.ext hE54
          replace hF45 := hF45.ext hE54
          replace hI45 := hI45.ext hE54
          replace hF47 := hF47.ext hE54
          replace hI47 := hI47.ext hE54
          replace hx48 := hx48.ext hE54
          replace hF52 := hF52.ext hE54
          replace hN52 := hN52.ext hE54
          replace hB12 := hB12.ext hE54
          have hN54 := hF54.is
          refine WL_m rfl (ev_alloc zr31) ?_
          rintro _ w13 ⟨rfl, hN13⟩
          have hz13 := hN13.size
          replace hE := hE.trans hN13.ext
          replace hA := hA.ext hN13.ext
          replace hB := hB.ext hN13.ext
          replace hm := hm.ext hN13.ext
          replace hl := hl.ext hN13.ext
          replace hB4 := hB4.ext hN13.ext
          replace hB5 := hB5.ext hN13.ext
          replace hF41 := hF41.ext hN13.ext
          replace hN41 := hN41.ext hN13.ext
          replace hF43 := hF43.ext hN13.ext
          replace hN43 := hN43.ext hN13.ext
          replace hF45 := hF45.ext hN13.ext
          replace hI45 := hI45.ext hN13.ext
          replace hF47 := hF47.ext hN13.ext
          replace hI47 := hI47.ext hN13.ext
          replace hx48 := hx48.ext hN13.ext
          replace hF52 := hF52.ext hN13.ext
          replace hN52 := hN52.ext hN13.ext
          replace hB12 := hB12.ext hN13.ext
          replace hF54 := hF54.ext hN13.ext
          replace hN54 := hN54.ext hN13.ext
          have hB13 : Blk w13 _ _ [_, _, _] := hN13.blk
          refine WL_s (ev_stores sz31 rfl rfl rfl (by simp [Value.oneCell']) hB13 (by simp)) ?_
          rintro _ w14_3 hS14_3
          have hz14_3 := hS14_3.size
          replace hE := hE.sto hS14_3 (by omega)
          replace hA := hA.sto hS14_3 (by omega)
          replace hB := hB.sto hS14_3 (by omega)
          replace hm := hm.sto hS14_3 (by omega)
          replace hl := hl.sto hS14_3 (by omega)
          replace hB4 := hB4.sto hS14_3 (by omega)
          replace hB5 := hB5.sto hS14_3 (by omega)
          replace hF41 := hF41.sto hS14_3 (by omega)
          replace hN41 := hN41.sto hS14_3 (by omega)
          replace hF43 := hF43.sto hS14_3 (by omega)
          replace hN43 := hN43.sto hS14_3 (by omega)
          replace hF45 := hF45.sto hS14_3 (by omega)
          replace hI45 := hI45.sto hS14_3 (by omega)
          replace hF47 := hF47.sto hS14_3 (by omega)
          replace hI47 := hI47.sto hS14_3 (by omega)
          replace hx48 := hx48.sto hS14_3 (by omega)
          replace hF52 := hF52.sto hS14_3 (by omega)
          replace hN52 := hN52.sto hS14_3 (by omega)
          replace hB12 := hB12.sto hS14_3 (by omega)
          replace hF54 := hF54.sto hS14_3 (by omega)
          replace hN54 := hN54.sto hS14_3 (by omega)
          replace hB13 : Blk w14_3 _ _ [_, _, _] := hS14_3.blk
          refine WL_nil ?_
          refine thenE_n ?_
          refine W_seq ?_
          refine W_region ?_
          refine WL_q rfl (ev_move rfl) ?_
          refine WL_m rfl (ev_call rfl (toIntS_spec _ _ m _ hm (by omega) (by omega))) ?_
          rintro _ w56 ⟨a56, rfl, hF56, hE56⟩
          have hz56 := hE56.size
          replace hE := hE.trans hE56
          replace hA := hA.ext hE56
          replace hB := hB.ext hE56
          replace hm := hm.ext hE56
          replace hl := hl.ext hE56
          replace hB4 := hB4.ext hE56
          replace hB5 := hB5.ext hE56
          replace hF41 := hF41.ext hE56
          replace hN41 := hN41.ext hE56
          replace hF43 := hF43.ext hE56
          replace hN43 := hN43.ext hE56
          replace hF45 := hF45.ext hE56
          replace hI45 := hI45.ext hE56
          replace hF47 := hF47.ext hE56
          replace hI47 := hI47.ext hE56
          replace hx48 := hx48.ext hE56
          replace hF52 := hF52.ext hE56
          replace hN52 := hN52.ext hE56
          replace hB12 := hB12.ext hE56
          replace hF54 := hF54.ext hE56
          replace hN54 := hN54.ext hE56
          replace hB13 := hB13.ext hE56
          have hI56 := hF56.is
          refine WL_q rfl (ev_assign rfl) ?_
          refine WL_nil ?_
          refine thenE_n ?_
          refine W_seq ?_
          refine W_region ?_
          refine WL_q rfl (ev_move rfl) ?_
          refine WL_m rfl (ev_call rfl (toIntS_spec _ _ l _ hl (by omega) (by omega))) ?_
          rintro _ w58 ⟨a58, rfl, hF58, hE58⟩
          have hz58 := hE58.size
          replace hE := hE.trans hE58
          replace hA := hA.ext hE58
          replace hB := hB.ext hE58
          replace hm := hm.ext hE58
          replace hl := hl.ext hE58
          replace hB4 := hB4.ext hE58
          replace hB5 := hB5.ext hE58
          replace hF41 := hF41.ext hE58
          replace hN41 := hN41.ext hE58
          replace hF43 := hF43.ext hE58
          replace hN43 := hN43.ext hE58
          replace hF45 := hF45.ext hE58
          replace hI45 := hI45.ext hE58
          replace hF47 := hF47.ext hE58
          replace hI47 := hI47.ext hE58
          replace hx48 := hx48.ext hE58
          replace hF52 := hF52.ext hE58
          replace hN52 := hN52.ext hE58
          replace hB12 := hB12.ext hE58
          replace hF54 := hF54.ext hE58
          replace hN54 := hN54.ext hE58
          replace hB13 := hB13.ext hE58
          replace hF56 := hF56.ext hE58
          replace hI56 := hI56.ext hE58
          have hI58 := hF58.is
          refine WL_q rfl (ev_assign rfl) ?_
          refine WL_nil ?_
          refine thenE_n ?_
          refine W_seq ?_
          refine W_region ?_
          refine WL_q rfl (ev_loads st31 sz31 rfl (cellsB hB12) rfl) ?_
          refine WL_q rfl (ev_loads st31 sz31 rfl (cellsB hB13) rfl) ?_
          refine WL_q rfl (ev_move rfl) ?_
          refine WL_q rfl (ev_move rfl) ?_
          refine WL_m rfl (ev_call rfl (PullNodes_spec _ A _ B _ _ m _ _ l _ hN52 (by omega) (by omega) hN54 (by omega) (by omega) hI56 (by omega) (by omega) hI58 (by omega) (by omega))) ?_
          rintro _ w64 ⟨a64, c64, y64, q64, rfl, hr64, hO64, hl64, hE64⟩
          have hz64 := hE64.size
          replace hE := hE.trans hE64
          replace hA := hA.ext hE64
          replace hB := hB.ext hE64
          replace hm := hm.ext hE64
          replace hl := hl.ext hE64
          replace hB4 := hB4.ext hE64
          replace hB5 := hB5.ext hE64
          replace hF41 := hF41.ext hE64
          replace hN41 := hN41.ext hE64
          replace hF43 := hF43.ext hE64
          replace hN43 := hN43.ext hE64
          replace hF45 := hF45.ext hE64
          replace hI45 := hI45.ext hE64
          replace hF47 := hF47.ext hE64
          replace hI47 := hI47.ext hE64
          replace hx48 := hx48.ext hE64
          replace hF52 := hF52.ext hE64
          replace hN52 := hN52.ext hE64
          replace hB12 := hB12.ext hE64
          replace hF54 := hF54.ext hE64
          replace hN54 := hN54.ext hE64
          replace hB13 := hB13.ext hE64
          replace hF56 := hF56.ext hE64
          replace hI56 := hI56.ext hE64
          replace hF58 := hF58.ext hE64
          replace hI58 := hI58.ext hE64
          refine WL_q rfl (ev_move rfl) ?_
          refine WL_q rfl (ev_extract rfl rfl) ?_
          refine WL_q rfl (ev_extract rfl rfl) ?_
          refine WL_q rfl (ev_assign rfl) ?_
          refine WL_q rfl (ev_assign rfl) ?_
          refine WL_nil ?_
          refine thenE_n ?_
          refine W_seq ?_
          refine W_seq ?_
          refine W_region ?_
          refine WL_q rfl (ev_move rfl) ?_
          refine WL_q rfl (ev_move rfl) ?_
          refine WL_m rfl (ev_call rfl (eqIntS_spec _ _ _ _ y64 y48 _ (ownt_i hO64) hx48 (by omega))) ?_
          rintro _ w69 ⟨rfl, hE69⟩
          have hz69 := hE69.size
          replace hE := hE.trans hE69
          replace hA := hA.ext hE69
          replace hB := hB.ext hE69
          replace hm := hm.ext hE69
          replace hl := hl.ext hE69
          replace hB4 := hB4.ext hE69
          replace hB5 := hB5.ext hE69
          replace hF41 := hF41.ext hE69
          replace hN41 := hN41.ext hE69
          replace hF43 := hF43.ext hE69
          replace hN43 := hN43.ext hE69
          replace hF45 := hF45.ext hE69
          replace hI45 := hI45.ext hE69
          replace hF47 := hF47.ext hE69
          replace hI47 := hI47.ext hE69
          replace hx48 := hx48.ext hE69
          replace hF52 := hF52.ext hE69
          replace hN52 := hN52.ext hE69
          replace hB12 := hB12.ext hE69
          replace hF54 := hF54.ext hE69
          replace hN54 := hN54.ext hE69
          replace hB13 := hB13.ext hE69
          replace hF56 := hF56.ext hE69
          replace hI56 := hI56.ext hE69
          replace hF58 := hF58.ext hE69
          replace hI58 := hI58.ext hE69
          replace hO64 := hO64.ext hE69
          refine WL_q rfl (ev_not rfl) ?_
          refine WL_q rfl (ev_move rfl) ?_
          refine WL_splitv (t := 71) rfl (fun hg70 => ?_) (fun hg70 => ?_)
          · have hg69 := not_true hg70
            refine WL_no rfl rfl hg70 rfl ?_
            refine WL_no rfl rfl hg70 rfl ?_
            refine WL_no rfl rfl hg70 rfl ?_
            refine WL_q rfl (ev_pick_t rfl hg70 rfl) ?_
            refine WL_nil ?_
            refine thenE_n ?_
            refine W_cond_t rfl ?_
            refine W_seq ?_
            refine W_region ?_
            refine WL_q rfl (ev_assign rfl) ?_
            refine WL_nil ?_
            refine thenE_n ?_
            refine W_ret ?_
            refine thenE_r ?_
            refine ret1 rfl rfl ?_
            first | (exact ⟨rfl, hE⟩) | (exact (bneE hg69 (hr64.det1 hr48)).elim) | (exact absurd (hr64.det1 hr48) hp69) | (exact absurd (hr64.det1 hr48) (of_decide_eq_false hg69)) | (exact (bneE hg69 (hr64.det2 hr48)).elim) | (exact absurd (hr64.det2 hr48) hp69) | (exact absurd (hr64.det2 hr48) (of_decide_eq_false hg69)) | (exact (bneE hg69 (hr64.det3 hr48)).elim) | (exact absurd (hr64.det3 hr48) hp69) | (exact absurd (hr64.det3 hr48) (of_decide_eq_false hg69)) | (exact (tfX hg69).elim) | (exact (decF hg69).elim) | (exfalso; omega)
          · have hg69 := not_false hg70
            refine WL_qg rfl rfl hg70 rfl (ev_move rfl) ?_
            refine WL_qg rfl rfl hg70 rfl (ev_move rfl) ?_
            refine WL_qg rfl rfl hg70 rfl (ev_neq_b Try.underlying4 rfl rfl) ?_
            refine WL_q rfl (ev_pick_f rfl hg70 rfl) ?_
            refine WL_nil ?_
            refine thenE_n ?_
            refine W_cond rfl (fun hg74 => ?_) (fun hg74 => ?_)
            · refine W_seq ?_
              refine W_region ?_
              refine WL_q rfl (ev_assign rfl) ?_
              refine WL_nil ?_
              refine thenE_n ?_
              refine W_ret ?_
              refine thenE_r ?_
              refine ret1 rfl rfl ?_
              first | (exact ⟨rfl, hE⟩) | (exact (bneE hg74 (hr64.det1 hr48)).elim) | (exact absurd (hr64.det1 hr48) hp74) | (exact absurd (hr64.det1 hr48) (of_decide_eq_false hg74)) | (exact (bneE hg74 (hr64.det2 hr48)).elim) | (exact absurd (hr64.det2 hr48) hp74) | (exact absurd (hr64.det2 hr48) (of_decide_eq_false hg74)) | (exact (bneE hg74 (hr64.det3 hr48)).elim) | (exact absurd (hr64.det3 hr48) hp74) | (exact absurd (hr64.det3 hr48) (of_decide_eq_false hg74)) | (exact (tfX hg74).elim) | (exact (decF hg74).elim) | (exfalso; omega)
            · refine W_skip ?_
              refine thenE_n ?_
              refine W_seq ?_
              refine W_seq ?_
              refine W_drawE [(0, true), (1, true), (2, false), (3, false), (4, true)] mixed (by kernel_rfl) rfl (by kernel_rfl) ?_
              intro wd20 hEd20 hzd20
              replace hE := hE.trans hEd20
              replace hA := hA.ext hEd20
              replace hB := hB.ext hEd20
              replace hm := hm.ext hEd20
              replace hl := hl.ext hEd20
              replace hB4 := hB4.ext hEd20
              replace hB5 := hB5.ext hEd20
              replace hF41 := hF41.ext hEd20
              replace hN41 := hN41.ext hEd20
              replace hF43 := hF43.ext hEd20
              replace hN43 := hN43.ext hEd20
              replace hF45 := hF45.ext hEd20
              replace hI45 := hI45.ext hEd20
              replace hF47 := hF47.ext hEd20
              replace hI47 := hI47.ext hEd20
              replace hx48 := hx48.ext hEd20
              replace hF52 := hF52.ext hEd20
              replace hN52 := hN52.ext hEd20
              replace hB12 := hB12.ext hEd20
              replace hF54 := hF54.ext hEd20
              replace hN54 := hN54.ext hEd20
              replace hB13 := hB13.ext hEd20
              replace hF56 := hF56.ext hEd20
              replace hI56 := hI56.ext hEd20
              replace hF58 := hF58.ext hEd20
              replace hI58 := hI58.ext hEd20
              replace hO64 := hO64.ext hEd20
              have hDd20 := Ext.refl wd20
              refine PW_q rfl rfl (fun wq hq => ev_loads st31 sz31 rfl (cellsB (hq.blk hB12)) rfl) ?_
              refine PW_q rfl rfl (fun wq hq => ev_loads st25 sz25 rfl (cellsB (hq.blk hB4)) rfl) ?_
              refine PW_m rfl rfl (ev_call rfl (toNetwork_spec _ A _ hA (by omega) (by omega))) ?_
              rintro _ w78 ⟨h78, rfl, hF78, hE78⟩
              have hz78 := hE78.size
              replace hE := hE.trans hE78
              replace hDd20 := hDd20.trans hE78
              have hN78 := hF78.is
              refine ⟨hDd20, ?_⟩
              have hA_3 := hA.ext hDd20
              have hB_3 := hB.ext hDd20
              have hm_3 := hm.ext hDd20
              have hl_3 := hl.ext hDd20
              have hB4_3 := hB4.ext hDd20
              have hB5_3 := hB5.ext hDd20
              have hF41_3 := hF41.ext hDd20
              have hN41_3 := hN41.ext hDd20
              have hF43_3 := hF43.ext hDd20
              have hN43_3 := hN43.ext hDd20
              have hF45_3 := hF45.ext hDd20
              have hI45_3 := hI45.ext hDd20
              have hF47_3 := hF47.ext hDd20
              have hI47_3 := hI47.ext hDd20
              have hx48_3 := hx48.ext hDd20
              have hF52_3 := hF52.ext hDd20
              have hN52_3 := hN52.ext hDd20
              have hB12_3 := hB12.ext hDd20
              have hF54_3 := hF54.ext hDd20
              have hN54_3 := hN54.ext hDd20
              have hB13_3 := hB13.ext hDd20
              have hF56_3 := hF56.ext hDd20
              have hI56_3 := hI56.ext hDd20
              have hF58_3 := hF58.ext hDd20
              have hI58_3 := hI58.ext hDd20
              have hO64_3 := hO64.ext hDd20
              refine PW_m rfl rfl (ev_call rfl (eqNetwork_spec _ _ A _ hN52_3 hN78 (by omega))) ?_
              rintro _ w79 ⟨rfl, hE79⟩
              have hz79 := hE79.size
              replace hE := hE.trans hE79
              replace hDd20 := hDd20.trans hE79
              replace hF78 := hF78.ext hE79
              replace hN78 := hN78.ext hE79
              refine ⟨hDd20, ?_⟩
              refine PW_q rfl rfl (fun wq hq => ev_not rfl) ?_
              replace hA := hA.ext hDd20
              replace hB := hB.ext hDd20
              replace hm := hm.ext hDd20
              replace hl := hl.ext hDd20
              replace hB4 := hB4.ext hDd20
              replace hB5 := hB5.ext hDd20
              replace hF41 := hF41.ext hDd20
              replace hN41 := hN41.ext hDd20
              replace hF43 := hF43.ext hDd20
              replace hN43 := hN43.ext hDd20
              replace hF45 := hF45.ext hDd20
              replace hI45 := hI45.ext hDd20
              replace hF47 := hF47.ext hDd20
              replace hI47 := hI47.ext hDd20
              replace hx48 := hx48.ext hDd20
              replace hF52 := hF52.ext hDd20
              replace hN52 := hN52.ext hDd20
              replace hB12 := hB12.ext hDd20
              replace hF54 := hF54.ext hDd20
              replace hN54 := hN54.ext hDd20
              replace hB13 := hB13.ext hDd20
              replace hF56 := hF56.ext hDd20
              replace hI56 := hI56.ext hDd20
              replace hF58 := hF58.ext hDd20
              replace hI58 := hI58.ext hDd20
              replace hO64 := hO64.ext hDd20
              refine PW_nil ?_
              refine thenE_n ?_
              refine W_cond rfl (fun hg80 => ?_) (fun hg80 => ?_)
              · have hg79 := not_true hg80
                refine W_seq ?_
                refine W_region ?_
                refine WL_q rfl (ev_assign rfl) ?_
                refine WL_nil ?_
                refine thenE_n ?_
                refine W_ret ?_
                refine thenE_r ?_
                refine ret1 rfl rfl ?_
                first | (exact ⟨rfl, hE⟩) | (exact (bneE hg79 (hr64.det1 hr48)).elim) | (exact absurd (hr64.det1 hr48) hp79) | (exact absurd (hr64.det1 hr48) (of_decide_eq_false hg79)) | (exact (bneE hg79 (hr64.det2 hr48)).elim) | (exact absurd (hr64.det2 hr48) hp79) | (exact absurd (hr64.det2 hr48) (of_decide_eq_false hg79)) | (exact (bneE hg79 (hr64.det3 hr48)).elim) | (exact absurd (hr64.det3 hr48) hp79) | (exact absurd (hr64.det3 hr48) (of_decide_eq_false hg79)) | (exact (tfX hg79).elim) | (exact (decF hg79).elim) | (exfalso; omega)
              · have hg79 := not_false hg80
                refine W_skip ?_
                refine thenE_n ?_
                refine W_seq ?_
                refine W_seq ?_
                refine W_drawE [(0, true), (1, true), (2, false), (3, false), (4, true)] mixed (by kernel_rfl) rfl (by kernel_rfl) ?_
                intro wd22 hEd22 hzd22
                replace hE := hE.trans hEd22
                replace hA := hA.ext hEd22
                replace hB := hB.ext hEd22
                replace hm := hm.ext hEd22
                replace hl := hl.ext hEd22
                replace hB4 := hB4.ext hEd22
                replace hB5 := hB5.ext hEd22
                replace hF41 := hF41.ext hEd22
                replace hN41 := hN41.ext hEd22
                replace hF43 := hF43.ext hEd22
                replace hN43 := hN43.ext hEd22
                replace hF45 := hF45.ext hEd22
                replace hI45 := hI45.ext hEd22
                replace hF47 := hF47.ext hEd22
                replace hI47 := hI47.ext hEd22
                replace hx48 := hx48.ext hEd22
                replace hF52 := hF52.ext hEd22
                replace hN52 := hN52.ext hEd22
                replace hB12 := hB12.ext hEd22
                replace hF54 := hF54.ext hEd22
                replace hN54 := hN54.ext hEd22
                replace hB13 := hB13.ext hEd22
                replace hF56 := hF56.ext hEd22
                replace hI56 := hI56.ext hEd22
                replace hF58 := hF58.ext hEd22
                replace hI58 := hI58.ext hEd22
                replace hO64 := hO64.ext hEd22
                replace hF78 := hF78.ext hEd22
                replace hN78 := hN78.ext hEd22
                have hDd22 := Ext.refl wd22
                refine PW_q rfl rfl (fun wq hq => ev_loads st31 sz31 rfl (cellsB (hq.blk hB13)) rfl) ?_
                refine PW_q rfl rfl (fun wq hq => ev_loads st25 sz25 rfl (cellsB (hq.blk hB5)) rfl) ?_
                refine PW_m rfl rfl (ev_call rfl (toNetwork_spec _ B _ hB (by omega) (by omega))) ?_
                rintro _ w83 ⟨h83, rfl, hF83, hE83⟩
                have hz83 := hE83.size
                replace hE := hE.trans hE83
                replace hDd22 := hDd22.trans hE83
                have hN83 := hF83.is
                refine ⟨hDd22, ?_⟩
                have hA_3 := hA.ext hDd22
                have hB_3 := hB.ext hDd22
                have hm_3 := hm.ext hDd22
                have hl_3 := hl.ext hDd22
                have hB4_3 := hB4.ext hDd22
                have hB5_3 := hB5.ext hDd22
                have hF41_3 := hF41.ext hDd22
                have hN41_3 := hN41.ext hDd22
                have hF43_3 := hF43.ext hDd22
                have hN43_3 := hN43.ext hDd22
                have hF45_3 := hF45.ext hDd22
                have hI45_3 := hI45.ext hDd22
                have hF47_3 := hF47.ext hDd22
                have hI47_3 := hI47.ext hDd22
                have hx48_3 := hx48.ext hDd22
                have hF52_3 := hF52.ext hDd22
                have hN52_3 := hN52.ext hDd22
                have hB12_3 := hB12.ext hDd22
                have hF54_3 := hF54.ext hDd22
                have hN54_3 := hN54.ext hDd22
                have hB13_3 := hB13.ext hDd22
                have hF56_3 := hF56.ext hDd22
                have hI56_3 := hI56.ext hDd22
                have hF58_3 := hF58.ext hDd22
                have hI58_3 := hI58.ext hDd22
                have hO64_3 := hO64.ext hDd22
                have hF78_3 := hF78.ext hDd22
                have hN78_3 := hN78.ext hDd22
                refine PW_m rfl rfl (ev_call rfl (eqNetwork_spec _ _ B _ hN54_3 hN83 (by omega))) ?_
                rintro _ w84 ⟨rfl, hE84⟩
                have hz84 := hE84.size
                replace hE := hE.trans hE84
                replace hDd22 := hDd22.trans hE84
                replace hF83 := hF83.ext hE84
                replace hN83 := hN83.ext hE84
                refine ⟨hDd22, ?_⟩
                refine PW_q rfl rfl (fun wq hq => ev_not rfl) ?_
                replace hA := hA.ext hDd22
                replace hB := hB.ext hDd22
                replace hm := hm.ext hDd22
                replace hl := hl.ext hDd22
                replace hB4 := hB4.ext hDd22
                replace hB5 := hB5.ext hDd22
                replace hF41 := hF41.ext hDd22
                replace hN41 := hN41.ext hDd22
                replace hF43 := hF43.ext hDd22
                replace hN43 := hN43.ext hDd22
                replace hF45 := hF45.ext hDd22
                replace hI45 := hI45.ext hDd22
                replace hF47 := hF47.ext hDd22
                replace hI47 := hI47.ext hDd22
                replace hx48 := hx48.ext hDd22
                replace hF52 := hF52.ext hDd22
                replace hN52 := hN52.ext hDd22
                replace hB12 := hB12.ext hDd22
                replace hF54 := hF54.ext hDd22
                replace hN54 := hN54.ext hDd22
                replace hB13 := hB13.ext hDd22
                replace hF56 := hF56.ext hDd22
                replace hI56 := hI56.ext hDd22
                replace hF58 := hF58.ext hDd22
                replace hI58 := hI58.ext hDd22
                replace hO64 := hO64.ext hDd22
                replace hF78 := hF78.ext hDd22
                replace hN78 := hN78.ext hDd22
                refine PW_nil ?_
                refine thenE_n ?_
                refine W_cond rfl (fun hg85 => ?_) (fun hg85 => ?_)
                · have hg84 := not_true hg85
                  refine W_seq ?_
                  refine W_region ?_
                  refine WL_q rfl (ev_assign rfl) ?_
                  refine WL_nil ?_
                  refine thenE_n ?_
                  refine W_ret ?_
                  refine thenE_r ?_
                  refine ret1 rfl rfl ?_
                  first | (exact ⟨rfl, hE⟩) | (exact (bneE hg84 (hr64.det1 hr48)).elim) | (exact absurd (hr64.det1 hr48) hp84) | (exact absurd (hr64.det1 hr48) (of_decide_eq_false hg84)) | (exact (bneE hg84 (hr64.det2 hr48)).elim) | (exact absurd (hr64.det2 hr48) hp84) | (exact absurd (hr64.det2 hr48) (of_decide_eq_false hg84)) | (exact (bneE hg84 (hr64.det3 hr48)).elim) | (exact absurd (hr64.det3 hr48) hp84) | (exact absurd (hr64.det3 hr48) (of_decide_eq_false hg84)) | (exact (tfX hg84).elim) | (exact (decF hg84).elim) | (exfalso; omega)
                · have hg84 := not_false hg85
                  refine W_skip ?_
                  refine thenE_n ?_
                  refine W_seq ?_
                  refine W_seq ?_
                  refine W_region ?_
                  refine WL_q rfl (ev_move rfl) ?_
                  refine WL_q rfl (ev_move rfl) ?_
                  refine WL_m rfl (ev_call rfl (toIntS_spec _ _ m _ hm (by omega) (by omega))) ?_
                  rintro _ w88 ⟨a88, rfl, hF88, hE88⟩
                  have hz88 := hE88.size
                  replace hE := hE.trans hE88
                  replace hA := hA.ext hE88
                  replace hB := hB.ext hE88
                  replace hm := hm.ext hE88
                  replace hl := hl.ext hE88
                  replace hB4 := hB4.ext hE88
                  replace hB5 := hB5.ext hE88
                  replace hF41 := hF41.ext hE88
                  replace hN41 := hN41.ext hE88
                  replace hF43 := hF43.ext hE88
                  replace hN43 := hN43.ext hE88
                  replace hF45 := hF45.ext hE88
                  replace hI45 := hI45.ext hE88
                  replace hF47 := hF47.ext hE88
                  replace hI47 := hI47.ext hE88
                  replace hx48 := hx48.ext hE88
                  replace hF52 := hF52.ext hE88
                  replace hN52 := hN52.ext hE88
                  replace hB12 := hB12.ext hE88
                  replace hF54 := hF54.ext hE88
                  replace hN54 := hN54.ext hE88
                  replace hB13 := hB13.ext hE88
                  replace hF56 := hF56.ext hE88
                  replace hI56 := hI56.ext hE88
                  replace hF58 := hF58.ext hE88
                  replace hI58 := hI58.ext hE88
                  replace hO64 := hO64.ext hE88
                  replace hF78 := hF78.ext hE88
                  replace hN78 := hN78.ext hE88
                  replace hF83 := hF83.ext hE88
                  replace hN83 := hN83.ext hE88
                  have hI88 := hF88.is
                  refine WL_m rfl (ev_call rfl (eqIntS_spec _ _ _ _ m m _ hI56 hI88 (by omega))) ?_
                  rintro _ w89 ⟨rfl, hE89⟩
                  have hz89 := hE89.size
                  replace hE := hE.trans hE89
                  replace hA := hA.ext hE89
                  replace hB := hB.ext hE89
                  replace hm := hm.ext hE89
                  replace hl := hl.ext hE89
                  replace hB4 := hB4.ext hE89
                  replace hB5 := hB5.ext hE89
                  replace hF41 := hF41.ext hE89
                  replace hN41 := hN41.ext hE89
                  replace hF43 := hF43.ext hE89
                  replace hN43 := hN43.ext hE89
                  replace hF45 := hF45.ext hE89
                  replace hI45 := hI45.ext hE89
                  replace hF47 := hF47.ext hE89
                  replace hI47 := hI47.ext hE89
                  replace hx48 := hx48.ext hE89
                  replace hF52 := hF52.ext hE89
                  replace hN52 := hN52.ext hE89
                  replace hB12 := hB12.ext hE89
                  replace hF54 := hF54.ext hE89
                  replace hN54 := hN54.ext hE89
                  replace hB13 := hB13.ext hE89
                  replace hF56 := hF56.ext hE89
                  replace hI56 := hI56.ext hE89
                  replace hF58 := hF58.ext hE89
                  replace hI58 := hI58.ext hE89
                  replace hO64 := hO64.ext hE89
                  replace hF78 := hF78.ext hE89
                  replace hN78 := hN78.ext hE89
                  replace hF83 := hF83.ext hE89
                  replace hN83 := hN83.ext hE89
                  replace hF88 := hF88.ext hE89
                  replace hI88 := hI88.ext hE89
                  refine WL_q rfl (ev_not rfl) ?_
                  refine WL_nil ?_
                  refine thenE_n ?_
                  refine W_cond rfl (fun hg90 => ?_) (fun hg90 => ?_)
                  · have hg89 := not_true hg90
                    refine W_seq ?_
                    refine W_region ?_
                    refine WL_q rfl (ev_assign rfl) ?_
                    refine WL_nil ?_
                    refine thenE_n ?_
                    refine W_ret ?_
                    refine thenE_r ?_
                    refine ret1 rfl rfl ?_
                    first | (exact ⟨rfl, hE⟩) | (exact (bneE hg89 (hr64.det1 hr48)).elim) | (exact absurd (hr64.det1 hr48) hp89) | (exact absurd (hr64.det1 hr48) (of_decide_eq_false hg89)) | (exact (bneE hg89 (hr64.det2 hr48)).elim) | (exact absurd (hr64.det2 hr48) hp89) | (exact absurd (hr64.det2 hr48) (of_decide_eq_false hg89)) | (exact (bneE hg89 (hr64.det3 hr48)).elim) | (exact absurd (hr64.det3 hr48) hp89) | (exact absurd (hr64.det3 hr48) (of_decide_eq_false hg89)) | (exact (tfX hg89).elim) | (exact (decF hg89).elim) | (exfalso; omega)
                  · have hg89 := not_false hg90
                    refine W_skip ?_
                    refine thenE_n ?_
                    refine W_seq ?_
                    refine W_seq ?_
                    refine W_region ?_
                    refine WL_q rfl (ev_move rfl) ?_
                    refine WL_q rfl (ev_move rfl) ?_
                    refine WL_m rfl (ev_call rfl (toIntS_spec _ _ l _ hl (by omega) (by omega))) ?_
                    rintro _ w93 ⟨a93, rfl, hF93, hE93⟩
                    have hz93 := hE93.size
                    replace hE := hE.trans hE93
                    replace hA := hA.ext hE93
                    replace hB := hB.ext hE93
                    replace hm := hm.ext hE93
                    replace hl := hl.ext hE93
                    replace hB4 := hB4.ext hE93
                    replace hB5 := hB5.ext hE93
                    replace hF41 := hF41.ext hE93
                    replace hN41 := hN41.ext hE93
                    replace hF43 := hF43.ext hE93
                    replace hN43 := hN43.ext hE93
                    replace hF45 := hF45.ext hE93
                    replace hI45 := hI45.ext hE93
                    replace hF47 := hF47.ext hE93
                    replace hI47 := hI47.ext hE93
                    replace hx48 := hx48.ext hE93
                    replace hF52 := hF52.ext hE93
                    replace hN52 := hN52.ext hE93
                    replace hB12 := hB12.ext hE93
                    replace hF54 := hF54.ext hE93
                    replace hN54 := hN54.ext hE93
                    replace hB13 := hB13.ext hE93
                    replace hF56 := hF56.ext hE93
                    replace hI56 := hI56.ext hE93
                    replace hF58 := hF58.ext hE93
                    replace hI58 := hI58.ext hE93
                    replace hO64 := hO64.ext hE93
                    replace hF78 := hF78.ext hE93
                    replace hN78 := hN78.ext hE93
                    replace hF83 := hF83.ext hE93
                    replace hN83 := hN83.ext hE93
                    replace hF88 := hF88.ext hE93
                    replace hI88 := hI88.ext hE93
                    have hI93 := hF93.is
                    refine WL_m rfl (ev_call rfl (eqIntS_spec _ _ _ _ l l _ hI58 hI93 (by omega))) ?_
                    rintro _ w94 ⟨rfl, hE94⟩
                    have hz94 := hE94.size
                    replace hE := hE.trans hE94
                    replace hA := hA.ext hE94
                    replace hB := hB.ext hE94
                    replace hm := hm.ext hE94
                    replace hl := hl.ext hE94
                    replace hB4 := hB4.ext hE94
                    replace hB5 := hB5.ext hE94
                    replace hF41 := hF41.ext hE94
                    replace hN41 := hN41.ext hE94
                    replace hF43 := hF43.ext hE94
                    replace hN43 := hN43.ext hE94
                    replace hF45 := hF45.ext hE94
                    replace hI45 := hI45.ext hE94
                    replace hF47 := hF47.ext hE94
                    replace hI47 := hI47.ext hE94
                    replace hx48 := hx48.ext hE94
                    replace hF52 := hF52.ext hE94
                    replace hN52 := hN52.ext hE94
                    replace hB12 := hB12.ext hE94
                    replace hF54 := hF54.ext hE94
                    replace hN54 := hN54.ext hE94
                    replace hB13 := hB13.ext hE94
                    replace hF56 := hF56.ext hE94
                    replace hI56 := hI56.ext hE94
                    replace hF58 := hF58.ext hE94
                    replace hI58 := hI58.ext hE94
                    replace hO64 := hO64.ext hE94
                    replace hF78 := hF78.ext hE94
                    replace hN78 := hN78.ext hE94
                    replace hF83 := hF83.ext hE94
                    replace hN83 := hN83.ext hE94
                    replace hF88 := hF88.ext hE94
                    replace hI88 := hI88.ext hE94
                    replace hF93 := hF93.ext hE94
                    replace hI93 := hI93.ext hE94
                    refine WL_q rfl (ev_not rfl) ?_
                    refine WL_nil ?_
                    refine thenE_n ?_
                    refine W_cond rfl (fun hg95 => ?_) (fun hg95 => ?_)
                    · have hg94 := not_true hg95
                      refine W_seq ?_
                      refine W_region ?_
                      refine WL_q rfl (ev_assign rfl) ?_
                      refine WL_nil ?_
                      refine thenE_n ?_
                      refine W_ret ?_
                      refine thenE_r ?_
                      refine ret1 rfl rfl ?_
                      first | (exact ⟨rfl, hE⟩) | (exact (bneE hg94 (hr64.det1 hr48)).elim) | (exact absurd (hr64.det1 hr48) hp94) | (exact absurd (hr64.det1 hr48) (of_decide_eq_false hg94)) | (exact (bneE hg94 (hr64.det2 hr48)).elim) | (exact absurd (hr64.det2 hr48) hp94) | (exact absurd (hr64.det2 hr48) (of_decide_eq_false hg94)) | (exact (bneE hg94 (hr64.det3 hr48)).elim) | (exact absurd (hr64.det3 hr48) hp94) | (exact absurd (hr64.det3 hr48) (of_decide_eq_false hg94)) | (exact (tfX hg94).elim) | (exact (decF hg94).elim) | (exfalso; omega)
                    · have hg94 := not_false hg95
                      refine W_skip ?_
                      refine thenE_n ?_
                      refine W_seq ?_
                      refine W_region ?_
                      refine WL_q rfl (ev_assign rfl) ?_
                      refine WL_nil ?_
                      refine thenE_n ?_
                      refine W_seq ?_
                      refine W_region ?_
                      refine WL_q rfl (ev_loads st31 sz31 rfl (cellsB hB12) rfl) ?_
                      refine WL_q rfl (ev_move rfl) ?_
                      refine WL_m rfl (ev_call rfl (markNetwork_spec _ A _ _ hF52 (by omega) (by omega) (by omega))) ?_
                      rintro _ w98 ⟨r98, rfl, hr98, hK98⟩
                      have hz98 := hK98.size
                      replace hE := hE.mrk hK98 (by omega)
                      replace hA := hA.mrk hK98 (by omega)
                      replace hB := hB.mrk hK98 (by omega)
                      replace hm := hm.mrk hK98 (by omega)
                      replace hl := hl.mrk hK98 (by omega)
                      replace hB4 := hB4.mrk hK98 (by omega)
                      replace hB5 := hB5.mrk hK98 (by omega)
                      replace hF41 := hF41.mrk hK98 (by omega)
                      replace hN41 := hN41.mrk hK98 (by omega)
                      replace hF43 := hF43.mrk hK98 (by omega)
                      replace hN43 := hN43.mrk hK98 (by omega)
                      replace hF45 := hF45.mrk hK98 (by omega)
                      replace hI45 := hI45.mrk hK98 (by omega)
                      replace hF47 := hF47.mrk hK98 (by omega)
                      replace hI47 := hI47.mrk hK98 (by omega)
                      replace hx48 := hx48.mrk hK98 (by omega)
                      replace hB12 := hB12.mrk hK98 (by omega)
                      replace hF54 := hF54.mrk hK98 (by omega)
                      replace hN54 := hN54.mrk hK98 (by omega)
                      replace hB13 := hB13.mrk hK98 (by omega)
                      replace hF56 := hF56.mrk hK98 (by omega)
                      replace hI56 := hI56.mrk hK98 (by omega)
                      replace hF58 := hF58.mrk hK98 (by omega)
                      replace hI58 := hI58.mrk hK98 (by omega)
                      replace hO64 := hO64.mrk hK98 (by omega)
                      replace hF78 := hF78.mrk hK98 (by omega)
                      replace hN78 := hN78.mrk hK98 (by omega)
                      replace hF83 := hF83.mrk hK98 (by omega)
                      replace hN83 := hN83.mrk hK98 (by omega)
                      replace hF88 := hF88.mrk hK98 (by omega)
                      replace hI88 := hI88.mrk hK98 (by omega)
                      replace hF93 := hF93.mrk hK98 (by omega)
                      replace hI93 := hI93.mrk hK98 (by omega)
                      refine WL_q rfl (ev_assign rfl) ?_
                      refine WL_nil ?_
                      refine thenE_n ?_
                      refine W_seq ?_
                      refine W_region ?_
                      refine WL_q rfl (ev_loads st31 sz31 rfl (cellsB hB13) rfl) ?_
                      refine WL_q rfl (ev_move rfl) ?_
                      refine WL_m rfl (ev_call rfl (markNetwork_spec _ B _ _ hF54 (by omega) (by omega) (by omega))) ?_
                      rintro _ w101 ⟨r101, rfl, hr101, hK101⟩
                      have hz101 := hK101.size
                      replace hE := hE.mrk hK101 (by omega)
                      replace hA := hA.mrk hK101 (by omega)
                      replace hB := hB.mrk hK101 (by omega)
                      replace hm := hm.mrk hK101 (by omega)
                      replace hl := hl.mrk hK101 (by omega)
                      replace hB4 := hB4.mrk hK101 (by omega)
                      replace hB5 := hB5.mrk hK101 (by omega)
                      replace hF41 := hF41.mrk hK101 (by omega)
                      replace hN41 := hN41.mrk hK101 (by omega)
                      replace hF43 := hF43.mrk hK101 (by omega)
                      replace hN43 := hN43.mrk hK101 (by omega)
                      replace hF45 := hF45.mrk hK101 (by omega)
                      replace hI45 := hI45.mrk hK101 (by omega)
                      replace hF47 := hF47.mrk hK101 (by omega)
                      replace hI47 := hI47.mrk hK101 (by omega)
                      replace hx48 := hx48.mrk hK101 (by omega)
                      replace hB12 := hB12.mrk hK101 (by omega)
                      replace hB13 := hB13.mrk hK101 (by omega)
                      replace hF56 := hF56.mrk hK101 (by omega)
                      replace hI56 := hI56.mrk hK101 (by omega)
                      replace hF58 := hF58.mrk hK101 (by omega)
                      replace hI58 := hI58.mrk hK101 (by omega)
                      replace hO64 := hO64.mrk hK101 (by omega)
                      replace hF78 := hF78.mrk hK101 (by omega)
                      replace hN78 := hN78.mrk hK101 (by omega)
                      replace hF83 := hF83.mrk hK101 (by omega)
                      replace hN83 := hN83.mrk hK101 (by omega)
                      replace hF88 := hF88.mrk hK101 (by omega)
                      replace hI88 := hI88.mrk hK101 (by omega)
                      replace hF93 := hF93.mrk hK101 (by omega)
                      replace hI93 := hI93.mrk hK101 (by omega)
                      refine WL_q rfl (ev_assign rfl) ?_
                      refine WL_nil ?_
                      refine thenE_n ?_
                      refine W_seq ?_
                      refine W_region ?_
                      refine WL_q rfl (ev_move rfl) ?_
                      refine WL_q rfl (ev_move rfl) ?_
                      refine WL_m rfl (ev_call rfl (markIntS_arg hF56 (by omega) (by omega))) ?_
                      rintro _ w104 ⟨rfl, hK104⟩
                      have hz104 := hK104.size
                      replace hE := hE.mrk hK104 (by omega)
                      replace hA := hA.mrk hK104 (by omega)
                      replace hB := hB.mrk hK104 (by omega)
                      replace hm := hm.mrk hK104 (by omega)
                      replace hl := hl.mrk hK104 (by omega)
                      replace hB4 := hB4.mrk hK104 (by omega)
                      replace hB5 := hB5.mrk hK104 (by omega)
                      replace hF41 := hF41.mrk hK104 (by omega)
                      replace hN41 := hN41.mrk hK104 (by omega)
                      replace hF43 := hF43.mrk hK104 (by omega)
                      replace hN43 := hN43.mrk hK104 (by omega)
                      replace hF45 := hF45.mrk hK104 (by omega)
                      replace hI45 := hI45.mrk hK104 (by omega)
                      replace hF47 := hF47.mrk hK104 (by omega)
                      replace hI47 := hI47.mrk hK104 (by omega)
                      replace hx48 := hx48.mrk hK104 (by omega)
                      replace hB12 := hB12.mrk hK104 (by omega)
                      replace hB13 := hB13.mrk hK104 (by omega)
                      replace hF58 := hF58.mrk hK104 (by omega)
                      replace hI58 := hI58.mrk hK104 (by omega)
                      replace hO64 := hO64.mrk hK104 (by omega)
                      replace hF78 := hF78.mrk hK104 (by omega)
                      replace hN78 := hN78.mrk hK104 (by omega)
                      replace hF83 := hF83.mrk hK104 (by omega)
                      replace hN83 := hN83.mrk hK104 (by omega)
                      replace hF88 := hF88.mrk hK104 (by omega)
                      replace hI88 := hI88.mrk hK104 (by omega)
                      replace hF93 := hF93.mrk hK104 (by omega)
                      replace hI93 := hI93.mrk hK104 (by omega)
                      refine WL_q rfl (ev_assign rfl) ?_
                      refine WL_nil ?_
                      refine thenE_n ?_
                      refine W_seq ?_
                      refine W_region ?_
                      refine WL_q rfl (ev_move rfl) ?_
                      refine WL_q rfl (ev_move rfl) ?_
                      refine WL_m rfl (ev_call rfl (markIntS_arg hF58 (by omega) (by omega))) ?_
                      rintro _ w107 ⟨rfl, hK107⟩
                      have hz107 := hK107.size
                      replace hE := hE.mrk hK107 (by omega)
                      replace hA := hA.mrk hK107 (by omega)
                      replace hB := hB.mrk hK107 (by omega)
                      replace hm := hm.mrk hK107 (by omega)
                      replace hl := hl.mrk hK107 (by omega)
                      replace hB4 := hB4.mrk hK107 (by omega)
                      replace hB5 := hB5.mrk hK107 (by omega)
                      replace hF41 := hF41.mrk hK107 (by omega)
                      replace hN41 := hN41.mrk hK107 (by omega)
                      replace hF43 := hF43.mrk hK107 (by omega)
                      replace hN43 := hN43.mrk hK107 (by omega)
                      replace hF45 := hF45.mrk hK107 (by omega)
                      replace hI45 := hI45.mrk hK107 (by omega)
                      replace hF47 := hF47.mrk hK107 (by omega)
                      replace hI47 := hI47.mrk hK107 (by omega)
                      replace hx48 := hx48.mrk hK107 (by omega)
                      replace hB12 := hB12.mrk hK107 (by omega)
                      replace hB13 := hB13.mrk hK107 (by omega)
                      replace hO64 := hO64.mrk hK107 (by omega)
                      replace hF78 := hF78.mrk hK107 (by omega)
                      replace hN78 := hN78.mrk hK107 (by omega)
                      replace hF83 := hF83.mrk hK107 (by omega)
                      replace hN83 := hN83.mrk hK107 (by omega)
                      replace hF88 := hF88.mrk hK107 (by omega)
                      replace hI88 := hI88.mrk hK107 (by omega)
                      replace hF93 := hF93.mrk hK107 (by omega)
                      replace hI93 := hI93.mrk hK107 (by omega)
                      refine WL_q rfl (ev_assign rfl) ?_
                      refine WL_nil ?_
                      refine thenE_n ?_
                      refine W_seq ?_
                      refine W_seq ?_
                      refine W_region ?_
                      refine WL_q rfl (ev_move rfl) ?_
                      refine WL_q rfl (ev_lss rfl rfl) ?_
                      refine WL_q rfl (ev_move rfl) ?_
                      refine WL_splitv (t := 110) rfl (fun hg109 => ?_) (fun hg109 => ?_)
                      · have hp109 := of_decide_eq_true hg109
                        refine WL_no rfl rfl hg109 rfl ?_
                        refine WL_no rfl rfl hg109 rfl ?_
                        refine WL_no rfl rfl hg109 rfl ?_
                        refine WL_no rfl rfl hg109 rfl ?_
                        refine WL_q rfl (ev_pick_t rfl hg109 rfl) ?_
                        refine WL_q rfl (ev_move rfl) ?_
                        refine WL_no rfl rfl rfl rfl ?_
                        refine WL_no rfl rfl rfl rfl ?_
                        refine WL_no rfl rfl rfl rfl ?_
                        refine WL_q rfl (ev_pick_t rfl rfl rfl) ?_
                        refine WL_nil ?_
                        refine thenE_n ?_
                        refine W_cond_t rfl ?_
                        refine W_seq ?_
                        refine W_region ?_
                        refine WL_q rfl (ev_assign rfl) ?_
                        refine WL_nil ?_
                        refine thenE_n ?_
                        refine W_ret ?_
                        refine thenE_r ?_
                        refine ret1 rfl rfl ?_
                        first | (exact ⟨rfl, hE⟩) | (exact (bneE hg109 (hr64.det1 hr48)).elim) | (exact absurd (hr64.det1 hr48) hp109) | (exact absurd (hr64.det1 hr48) (of_decide_eq_false hg109)) | (exact (bneE hg109 (hr64.det2 hr48)).elim) | (exact absurd (hr64.det2 hr48) hp109) | (exact absurd (hr64.det2 hr48) (of_decide_eq_false hg109)) | (exact (bneE hg109 (hr64.det3 hr48)).elim) | (exact absurd (hr64.det3 hr48) hp109) | (exact absurd (hr64.det3 hr48) (of_decide_eq_false hg109)) | (exact (tfX hg109).elim) | (exact (decF hg109).elim) | (exfalso; omega)
                      · have hp109 := of_decide_eq_false hg109
                        refine WL_qg rfl rfl hg109 rfl (ev_move rfl) ?_
                        refine WL_qg rfl rfl hg109 rfl (ev_move rfl) ?_
                        refine WL_mg rfl rfl hg109 rfl (ev_call rfl (eqIntS_spec _ _ _ _ y64 y48 _ (ownt_i hO64) hx48 (by omega))) ?_
                        rintro _ w113 ⟨rfl, hE113⟩
                        have hz113 := hE113.size
                        replace hE := hE.trans hE113
                        replace hA := hA.ext hE113
                        replace hB := hB.ext hE113
                        replace hm := hm.ext hE113
                        replace hl := hl.ext hE113
                        replace hB4 := hB4.ext hE113
                        replace hB5 := hB5.ext hE113
                        replace hF41 := hF41.ext hE113
                        replace hN41 := hN41.ext hE113
                        replace hF43 := hF43.ext hE113
                        replace hN43 := hN43.ext hE113
                        replace hF45 := hF45.ext hE113
                        replace hI45 := hI45.ext hE113
                        replace hF47 := hF47.ext hE113
                        replace hI47 := hI47.ext hE113
                        replace hx48 := hx48.ext hE113
                        replace hB12 := hB12.ext hE113
                        replace hB13 := hB13.ext hE113
                        replace hO64 := hO64.ext hE113
                        replace hF78 := hF78.ext hE113
                        replace hN78 := hN78.ext hE113
                        replace hF83 := hF83.ext hE113
                        replace hN83 := hN83.ext hE113
                        replace hF88 := hF88.ext hE113
                        replace hI88 := hI88.ext hE113
                        replace hF93 := hF93.ext hE113
                        replace hI93 := hI93.ext hE113
                        refine WL_qg rfl rfl hg109 rfl (ev_not rfl) ?_
                        refine WL_q rfl (ev_pick_f rfl hg109 rfl) ?_
                        refine WL_q rfl (ev_move rfl) ?_
                        refine WL_splitv (t := 116) rfl (fun hg114 => ?_) (fun hg114 => ?_)
                        · have hg113 := not_true hg114
                          refine WL_no rfl rfl hg114 rfl ?_
                          refine WL_no rfl rfl hg114 rfl ?_
                          refine WL_no rfl rfl hg114 rfl ?_
                          refine WL_q rfl (ev_pick_t rfl hg114 rfl) ?_
                          refine WL_nil ?_
                          refine thenE_n ?_
                          refine W_cond_t rfl ?_
                          refine W_seq ?_
                          refine W_region ?_
                          refine WL_q rfl (ev_assign rfl) ?_
                          refine WL_nil ?_
                          refine thenE_n ?_
                          refine W_ret ?_
                          refine thenE_r ?_
                          refine ret1 rfl rfl ?_
                          first | (exact ⟨rfl, hE⟩) | (exact (bneE hg113 (hr64.det1 hr48)).elim) | (exact absurd (hr64.det1 hr48) hp113) | (exact absurd (hr64.det1 hr48) (of_decide_eq_false hg113)) | (exact (bneE hg113 (hr64.det2 hr48)).elim) | (exact absurd (hr64.det2 hr48) hp113) | (exact absurd (hr64.det2 hr48) (of_decide_eq_false hg113)) | (exact (bneE hg113 (hr64.det3 hr48)).elim) | (exact absurd (hr64.det3 hr48) hp113) | (exact absurd (hr64.det3 hr48) (of_decide_eq_false hg113)) | (exact (tfX hg113).elim) | (exact (decF hg113).elim) | (exfalso; omega)
                        · have hg113 := not_false hg114
                          refine WL_qg rfl rfl hg114 rfl (ev_move rfl) ?_
                          refine WL_qg rfl rfl hg114 rfl (ev_move rfl) ?_
                          refine WL_qg rfl rfl hg114 rfl (ev_neq_b Try.underlying4 rfl rfl) ?_
                          refine WL_q rfl (ev_pick_f rfl hg114 rfl) ?_
                          refine WL_nil ?_
                          refine thenE_n ?_
                          refine W_cond rfl (fun hg119 => ?_) (fun hg119 => ?_)
                          · refine W_seq ?_
                            refine W_region ?_
                            refine WL_q rfl (ev_assign rfl) ?_
                            refine WL_nil ?_
                            refine thenE_n ?_
                            refine W_ret ?_
                            refine thenE_r ?_
                            refine ret1 rfl rfl ?_
                            first | (exact ⟨rfl, hE⟩) | (exact (bneE hg119 (hr64.det1 hr48)).elim) | (exact absurd (hr64.det1 hr48) hp119) | (exact absurd (hr64.det1 hr48) (of_decide_eq_false hg119)) | (exact (bneE hg119 (hr64.det2 hr48)).elim) | (exact absurd (hr64.det2 hr48) hp119) | (exact absurd (hr64.det2 hr48) (of_decide_eq_false hg119)) | (exact (bneE hg119 (hr64.det3 hr48)).elim) | (exact absurd (hr64.det3 hr48) hp119) | (exact absurd (hr64.det3 hr48) (of_decide_eq_false hg119)) | (exact (tfX hg119).elim) | (exact (decF hg119).elim) | (exfalso; omega)
                          · refine W_skip ?_
                            refine thenE_n ?_
                            refine W_seq ?_
                            refine W_region ?_
                            refine WL_q rfl (ev_assign rfl) ?_
                            refine WL_nil ?_
                            refine thenE_n ?_
                            refine W_seq ?_
                            refine W_region ?_
                            refine WL_q rfl (ev_move rfl) ?_
                            refine WL_q rfl (ev_move rfl) ?_
                            refine WL_m rfl (ev_call rfl (markIntS_ownH hO64 (by omega) (by omega))) ?_
                            rintro _ w123 ⟨rfl, hO123, hK123⟩
                            have hz123 := hK123.size
                            have hR123 := hK123
                            replace hE := hE.rg hR123 (by omega)
                            replace hA := hA.rg hR123 (by omega)
                            replace hB := hB.rg hR123 (by omega)
                            replace hm := hm.rg hR123 (by omega)
                            replace hl := hl.rg hR123 (by omega)
                            replace hB4 := hB4.rg hR123 (by omega)
                            replace hB5 := hB5.rg hR123 (by omega)
                            replace hF41 := hF41.rg hR123 (by omega)
                            replace hN41 := hN41.rg hR123 (by omega)
                            replace hF43 := hF43.rg hR123 (by omega)
                            replace hN43 := hN43.rg hR123 (by omega)
                            replace hF45 := hF45.rg hR123 (by omega)
                            replace hI45 := hI45.rg hR123 (by omega)
                            replace hF47 := hF47.rg hR123 (by omega)
                            replace hI47 := hI47.rg hR123 (by omega)
                            replace hx48 := hx48.rg hR123 (by omega)
                            replace hB12 := hB12.rg hR123 (by omega)
                            replace hB13 := hB13.rg hR123 (by omega)
                            replace hF78 := hF78.rg hR123 (by omega)
                            replace hN78 := hN78.rg hR123 (by omega)
                            replace hF83 := hF83.rg hR123 (by omega)
                            replace hN83 := hN83.rg hR123 (by omega)
                            replace hF88 := hF88.rg hR123 (by omega)
                            replace hI88 := hI88.rg hR123 (by omega)
                            replace hF93 := hF93.rg hR123 (by omega)
                            replace hI93 := hI93.rg hR123 (by omega)
                            replace hO64 := hO123
                            refine WL_q rfl (ev_assign rfl) ?_
                            refine WL_nil ?_
                            refine thenE_n ?_
                            refine W_seq ?_
                            refine W_region ?_
                            refine WL_q rfl (ev_assign rfl) ?_
                            refine WL_nil ?_
                            refine thenE_n ?_
                            refine W_seq ?_
                            refine W_region ?_
                            refine WL_q rfl (ev_move rfl) ?_
                            refine WL_q rfl (ev_move rfl) ?_
                            refine WL_m rfl (ev_call rfl (heldIntS_spec _ _ (nums 1 y64.length) _ _ (Ints.of_own (nums_len _ _) hO64.1) rfl (by omega) (by omega))) ?_
                            rintro _ w126 ⟨rfl, hE126⟩
                            have hz126 := hE126.size
                            replace hE := hE.trans hE126
                            replace hA := hA.ext hE126
                            replace hB := hB.ext hE126
                            replace hm := hm.ext hE126
                            replace hl := hl.ext hE126
                            replace hB4 := hB4.ext hE126
                            replace hB5 := hB5.ext hE126
                            replace hF41 := hF41.ext hE126
                            replace hN41 := hN41.ext hE126
                            replace hF43 := hF43.ext hE126
                            replace hN43 := hN43.ext hE126
                            replace hF45 := hF45.ext hE126
                            replace hI45 := hI45.ext hE126
                            replace hF47 := hF47.ext hE126
                            replace hI47 := hI47.ext hE126
                            replace hx48 := hx48.ext hE126
                            replace hB12 := hB12.ext hE126
                            replace hB13 := hB13.ext hE126
                            replace hO64 := hO64.ext hE126
                            replace hF78 := hF78.ext hE126
                            replace hN78 := hN78.ext hE126
                            replace hF83 := hF83.ext hE126
                            replace hN83 := hN83.ext hE126
                            replace hF88 := hF88.ext hE126
                            replace hI88 := hI88.ext hE126
                            replace hF93 := hF93.ext hE126
                            replace hI93 := hI93.ext hE126
                            refine WL_q rfl (ev_assign rfl) ?_
                            refine WL_nil ?_
                            refine thenE_n ?_
                            refine W_seq ?_
                            refine W_seq ?_
                            refine W_region ?_
                            refine WL_q rfl (ev_move rfl) ?_
                            refine WL_q rfl (ev_lss rfl rfl) ?_
                            refine WL_nil ?_
                            refine thenE_n ?_
                            refine W_cond rfl (fun hg128 => ?_) (fun hg128 => ?_)
                            · have hp128 := of_decide_eq_true hg128
                              refine W_seq ?_
                              refine W_region ?_
                              refine WL_q rfl (ev_assign rfl) ?_
                              refine WL_nil ?_
                              refine thenE_n ?_
                              refine W_ret ?_
                              refine thenE_r ?_
                              refine ret1 rfl rfl ?_
                              first | (exact ⟨rfl, hE⟩) | (exact (bneE hg128 (hr64.det1 hr48)).elim) | (exact absurd (hr64.det1 hr48) hp128) | (exact absurd (hr64.det1 hr48) (of_decide_eq_false hg128)) | (exact (bneE hg128 (hr64.det2 hr48)).elim) | (exact absurd (hr64.det2 hr48) hp128) | (exact absurd (hr64.det2 hr48) (of_decide_eq_false hg128)) | (exact (bneE hg128 (hr64.det3 hr48)).elim) | (exact absurd (hr64.det3 hr48) hp128) | (exact absurd (hr64.det3 hr48) (of_decide_eq_false hg128)) | (exact (tfX hg128).elim) | (exact (decF hg128).elim) | (exfalso; omega)
                            · have hp128 := of_decide_eq_false hg128
                              refine W_skip ?_
                              refine thenE_n ?_
                              refine W_seq ?_
                              refine W_seq ?_
                              refine W_region ?_
                              refine WL_q rfl (ev_move rfl) ?_
                              refine WL_q rfl (ev_move rfl) ?_
                              refine WL_q rfl (ev_neq rfl rfl) ?_
                              refine WL_nil ?_
                              refine thenE_n ?_
                              refine W_cond rfl (fun hg131 => ?_) (fun hg131 => ?_)
                              · have hp131 := of_decide_eq_true hg131
                                refine W_seq ?_
                                refine W_region ?_
                                refine WL_q rfl (ev_assign rfl) ?_
                                refine WL_nil ?_
                                refine thenE_n ?_
                                refine W_ret ?_
                                refine thenE_r ?_
                                refine ret1 rfl rfl ?_
                                first | (exact ⟨rfl, hE⟩) | (exact (bneE hg131 (hr64.det1 hr48)).elim) | (exact absurd (hr64.det1 hr48) hp131) | (exact absurd (hr64.det1 hr48) (of_decide_eq_false hg131)) | (exact (bneE hg131 (hr64.det2 hr48)).elim) | (exact absurd (hr64.det2 hr48) hp131) | (exact absurd (hr64.det2 hr48) (of_decide_eq_false hg131)) | (exact (bneE hg131 (hr64.det3 hr48)).elim) | (exact absurd (hr64.det3 hr48) hp131) | (exact absurd (hr64.det3 hr48) (of_decide_eq_false hg131)) | (exact (tfX hg131).elim) | (exact (decF hg131).elim) | (exfalso; omega)
                              · have hp131 := of_decide_eq_false hg131
                                refine W_skip ?_
                                refine thenE_n ?_
                                refine W_seq ?_
                                refine W_drawE [(0, true), (2, true), (4, true), (6, true), (1, false), (3, false), (5, false), (7, false), (8, false), (9, true), (10, true), (11, true), (12, true), (13, true)] mixed (by kernel_rfl) rfl (by kernel_rfl) ?_
                                intro wd43 hEd43 hzd43
                                replace hE := hE.trans hEd43
                                replace hA := hA.ext hEd43
                                replace hB := hB.ext hEd43
                                replace hm := hm.ext hEd43
                                replace hl := hl.ext hEd43
                                replace hB4 := hB4.ext hEd43
                                replace hB5 := hB5.ext hEd43
                                replace hF41 := hF41.ext hEd43
                                replace hN41 := hN41.ext hEd43
                                replace hF43 := hF43.ext hEd43
                                replace hN43 := hN43.ext hEd43
                                replace hF45 := hF45.ext hEd43
                                replace hI45 := hI45.ext hEd43
                                replace hF47 := hF47.ext hEd43
                                replace hI47 := hI47.ext hEd43
                                replace hx48 := hx48.ext hEd43
                                replace hB12 := hB12.ext hEd43
                                replace hB13 := hB13.ext hEd43
                                replace hO64 := hO64.ext hEd43
                                replace hF78 := hF78.ext hEd43
                                replace hN78 := hN78.ext hEd43
                                replace hF83 := hF83.ext hEd43
                                replace hN83 := hN83.ext hEd43
                                replace hF88 := hF88.ext hEd43
                                replace hI88 := hI88.ext hEd43
                                replace hF93 := hF93.ext hEd43
                                replace hI93 := hI93.ext hEd43
                                have hDd43 := Ext.refl wd43
                                refine PW_q rfl rfl (fun wq hq => ev_loads st25 sz25 rfl (cellsB (hq.blk hB4)) rfl) ?_
                                refine PW_q rfl rfl (fun wq hq => ev_loads st25 sz25 rfl (cellsB (hq.blk hB5)) rfl) ?_
                                refine PW_q rfl rfl (fun wq hq => ev_move rfl) ?_
                                refine PW_q rfl rfl (fun wq hq => ev_move rfl) ?_
                                refine PW_m rfl rfl (ev_call rfl (toNetwork_spec _ A _ hA (by omega) (by omega))) ?_
                                rintro _ w134 ⟨h134, rfl, hF134, hE134⟩
                                have hz134 := hE134.size
                                replace hE := hE.trans hE134
                                replace hDd43 := hDd43.trans hE134
                                have hN134 := hF134.is
                                refine ⟨hDd43, ?_⟩
                                have hA_3 := hA.ext hDd43
                                have hB_3 := hB.ext hDd43
                                have hm_3 := hm.ext hDd43
                                have hl_3 := hl.ext hDd43
                                have hB4_3 := hB4.ext hDd43
                                have hB5_3 := hB5.ext hDd43
                                have hF41_3 := hF41.ext hDd43
                                have hN41_3 := hN41.ext hDd43
                                have hF43_3 := hF43.ext hDd43
                                have hN43_3 := hN43.ext hDd43
                                have hF45_3 := hF45.ext hDd43
                                have hI45_3 := hI45.ext hDd43
                                have hF47_3 := hF47.ext hDd43
                                have hI47_3 := hI47.ext hDd43
                                have hx48_3 := hx48.ext hDd43
                                have hB12_3 := hB12.ext hDd43
                                have hB13_3 := hB13.ext hDd43
                                have hO64_3 := hO64.ext hDd43
                                have hF78_3 := hF78.ext hDd43
                                have hN78_3 := hN78.ext hDd43
                                have hF83_3 := hF83.ext hDd43
                                have hN83_3 := hN83.ext hDd43
                                have hF88_3 := hF88.ext hDd43
                                have hI88_3 := hI88.ext hDd43
                                have hF93_3 := hF93.ext hDd43
                                have hI93_3 := hI93.ext hDd43
                                refine PW_m rfl rfl (ev_call rfl (toNetwork_spec _ B _ hB_3 (by omega) (by omega))) ?_
                                rintro _ w136 ⟨h136, rfl, hF136, hE136⟩
                                have hz136 := hE136.size
                                replace hE := hE.trans hE136
                                replace hDd43 := hDd43.trans hE136
                                replace hF134 := hF134.ext hE136
                                replace hN134 := hN134.ext hE136
                                have hN136 := hF136.is
                                refine ⟨hDd43, ?_⟩
                                have hA_5 := hA.ext hDd43
                                have hB_5 := hB.ext hDd43
                                have hm_5 := hm.ext hDd43
                                have hl_5 := hl.ext hDd43
                                have hB4_5 := hB4.ext hDd43
                                have hB5_5 := hB5.ext hDd43
                                have hF41_5 := hF41.ext hDd43
                                have hN41_5 := hN41.ext hDd43
                                have hF43_5 := hF43.ext hDd43
                                have hN43_5 := hN43.ext hDd43
                                have hF45_5 := hF45.ext hDd43
                                have hI45_5 := hI45.ext hDd43
                                have hF47_5 := hF47.ext hDd43
                                have hI47_5 := hI47.ext hDd43
                                have hx48_5 := hx48.ext hDd43
                                have hB12_5 := hB12.ext hDd43
                                have hB13_5 := hB13.ext hDd43
                                have hO64_5 := hO64.ext hDd43
                                have hF78_5 := hF78.ext hDd43
                                have hN78_5 := hN78.ext hDd43
                                have hF83_5 := hF83.ext hDd43
                                have hN83_5 := hN83.ext hDd43
                                have hF88_5 := hF88.ext hDd43
                                have hI88_5 := hI88.ext hDd43
                                have hF93_5 := hF93.ext hDd43
                                have hI93_5 := hI93.ext hDd43
                                refine PW_m rfl rfl (ev_call rfl (toIntS_spec _ _ m _ hm_5 (by omega) (by omega))) ?_
                                rintro _ w138 ⟨a138, rfl, hF138, hE138⟩
                                have hz138 := hE138.size
                                replace hE := hE.trans hE138
                                replace hDd43 := hDd43.trans hE138
                                replace hF134 := hF134.ext hE138
                                replace hN134 := hN134.ext hE138
                                replace hF136 := hF136.ext hE138
                                replace hN136 := hN136.ext hE138
                                have hI138 := hF138.is
                                refine ⟨hDd43, ?_⟩
                                have hA_7 := hA.ext hDd43
                                have hB_7 := hB.ext hDd43
                                have hm_7 := hm.ext hDd43
                                have hl_7 := hl.ext hDd43
                                have hB4_7 := hB4.ext hDd43
                                have hB5_7 := hB5.ext hDd43
                                have hF41_7 := hF41.ext hDd43
                                have hN41_7 := hN41.ext hDd43
                                have hF43_7 := hF43.ext hDd43
                                have hN43_7 := hN43.ext hDd43
                                have hF45_7 := hF45.ext hDd43
                                have hI45_7 := hI45.ext hDd43
                                have hF47_7 := hF47.ext hDd43
                                have hI47_7 := hI47.ext hDd43
                                have hx48_7 := hx48.ext hDd43
                                have hB12_7 := hB12.ext hDd43
                                have hB13_7 := hB13.ext hDd43
                                have hO64_7 := hO64.ext hDd43
                                have hF78_7 := hF78.ext hDd43
                                have hN78_7 := hN78.ext hDd43
                                have hF83_7 := hF83.ext hDd43
                                have hN83_7 := hN83.ext hDd43
                                have hF88_7 := hF88.ext hDd43
                                have hI88_7 := hI88.ext hDd43
                                have hF93_7 := hF93.ext hDd43
                                have hI93_7 := hI93.ext hDd43
                                refine PW_m rfl rfl (ev_call rfl (toIntS_spec _ _ l _ hl_7 (by omega) (by omega))) ?_
                                rintro _ w140 ⟨a140, rfl, hF140, hE140⟩
                                have hz140 := hE140.size
                                replace hE := hE.trans hE140
                                replace hDd43 := hDd43.trans hE140
                                replace hF134 := hF134.ext hE140
                                replace hN134 := hN134.ext hE140
                                replace hF136 := hF136.ext hE140
                                replace hN136 := hN136.ext hE140
                                replace hF138 := hF138.ext hE140
                                replace hI138 := hI138.ext hE140
                                have hI140 := hF140.is
                                refine ⟨hDd43, ?_⟩
                                have hA_8 := hA.ext hDd43
                                have hB_8 := hB.ext hDd43
                                have hm_8 := hm.ext hDd43
                                have hl_8 := hl.ext hDd43
                                have hB4_8 := hB4.ext hDd43
                                have hB5_8 := hB5.ext hDd43
                                have hF41_8 := hF41.ext hDd43
                                have hN41_8 := hN41.ext hDd43
                                have hF43_8 := hF43.ext hDd43
                                have hN43_8 := hN43.ext hDd43
                                have hF45_8 := hF45.ext hDd43
                                have hI45_8 := hI45.ext hDd43
                                have hF47_8 := hF47.ext hDd43
                                have hI47_8 := hI47.ext hDd43
                                have hx48_8 := hx48.ext hDd43
                                have hB12_8 := hB12.ext hDd43
                                have hB13_8 := hB13.ext hDd43
                                have hO64_8 := hO64.ext hDd43
                                have hF78_8 := hF78.ext hDd43
                                have hN78_8 := hN78.ext hDd43
                                have hF83_8 := hF83.ext hDd43
                                have hN83_8 := hN83.ext hDd43
                                have hF88_8 := hF88.ext hDd43
                                have hI88_8 := hI88.ext hDd43
                                have hF93_8 := hF93.ext hDd43
                                have hI93_8 := hI93.ext hDd43
                                refine PW_m rfl rfl (ev_call rfl (PullNodes_spec _ A _ B _ _ m _ _ l _ hN134 (by omega) (by omega) hN136 (by omega) (by omega) hI138 (by omega) (by omega) hI140 (by omega) (by omega))) ?_
                                rintro _ w141 ⟨a141, c141, y141, q141, rfl, hr141, hO141, hl141, hE141⟩
                                have hz141 := hE141.size
                                replace hE := hE.trans hE141
                                replace hDd43 := hDd43.trans hE141
                                replace hF134 := hF134.ext hE141
                                replace hN134 := hN134.ext hE141
                                replace hF136 := hF136.ext hE141
                                replace hN136 := hN136.ext hE141
                                replace hF138 := hF138.ext hE141
                                replace hI138 := hI138.ext hE141
                                replace hF140 := hF140.ext hE141
                                replace hI140 := hI140.ext hE141
                                refine ⟨hDd43, ?_⟩
                                refine PW_q rfl rfl (fun wq hq => ev_move rfl) ?_
                                refine PW_q rfl rfl (fun wq hq => ev_extract rfl rfl) ?_
                                refine PW_q rfl rfl (fun wq hq => ev_extract rfl rfl) ?_
                                refine PW_q rfl rfl (fun wq hq => ev_assign rfl) ?_
                                refine PW_q rfl rfl (fun wq hq => ev_assign rfl) ?_
                                replace hA := hA.ext hDd43
                                replace hB := hB.ext hDd43
                                replace hm := hm.ext hDd43
                                replace hl := hl.ext hDd43
                                replace hB4 := hB4.ext hDd43
                                replace hB5 := hB5.ext hDd43
                                replace hF41 := hF41.ext hDd43
                                replace hN41 := hN41.ext hDd43
                                replace hF43 := hF43.ext hDd43
                                replace hN43 := hN43.ext hDd43
                                replace hF45 := hF45.ext hDd43
                                replace hI45 := hI45.ext hDd43
                                replace hF47 := hF47.ext hDd43
                                replace hI47 := hI47.ext hDd43
                                replace hx48 := hx48.ext hDd43
                                replace hB12 := hB12.ext hDd43
                                replace hB13 := hB13.ext hDd43
                                replace hO64 := hO64.ext hDd43
                                replace hF78 := hF78.ext hDd43
                                replace hN78 := hN78.ext hDd43
                                replace hF83 := hF83.ext hDd43
                                replace hN83 := hN83.ext hDd43
                                replace hF88 := hF88.ext hDd43
                                replace hI88 := hI88.ext hDd43
                                replace hF93 := hF93.ext hDd43
                                replace hI93 := hI93.ext hDd43
                                refine PW_nil ?_
                                refine thenE_n ?_
                                refine W_seq ?_
                                refine W_seq ?_
                                refine W_region ?_
                                refine WL_q rfl (ev_move rfl) ?_
                                refine WL_q rfl (ev_move rfl) ?_
                                refine WL_m rfl (ev_call rfl (eqIntS_spec _ _ _ _ y141 y48 _ (ownt_i hO141) hx48 (by omega))) ?_
                                rintro _ w146 ⟨rfl, hE146⟩
                                have hz146 := hE146.size
                                replace hE := hE.trans hE146
                                replace hA := hA.ext hE146
                                replace hB := hB.ext hE146
                                replace hm := hm.ext hE146
                                replace hl := hl.ext hE146
                                replace hB4 := hB4.ext hE146
                                replace hB5 := hB5.ext hE146
                                replace hF41 := hF41.ext hE146
                                replace hN41 := hN41.ext hE146
                                replace hF43 := hF43.ext hE146
                                replace hN43 := hN43.ext hE146
                                replace hF45 := hF45.ext hE146
                                replace hI45 := hI45.ext hE146
                                replace hF47 := hF47.ext hE146
                                replace hI47 := hI47.ext hE146
                                replace hx48 := hx48.ext hE146
                                replace hB12 := hB12.ext hE146
                                replace hB13 := hB13.ext hE146
                                replace hO64 := hO64.ext hE146
                                replace hF78 := hF78.ext hE146
                                replace hN78 := hN78.ext hE146
                                replace hF83 := hF83.ext hE146
                                replace hN83 := hN83.ext hE146
                                replace hF88 := hF88.ext hE146
                                replace hI88 := hI88.ext hE146
                                replace hF93 := hF93.ext hE146
                                replace hI93 := hI93.ext hE146
                                replace hF134 := hF134.ext hE146
                                replace hN134 := hN134.ext hE146
                                replace hF136 := hF136.ext hE146
                                replace hN136 := hN136.ext hE146
                                replace hF138 := hF138.ext hE146
                                replace hI138 := hI138.ext hE146
                                replace hF140 := hF140.ext hE146
                                replace hI140 := hI140.ext hE146
                                replace hO141 := hO141.ext hE146
                                refine WL_q rfl (ev_not rfl) ?_
                                refine WL_q rfl (ev_move rfl) ?_
                                refine WL_splitv (t := 148) rfl (fun hg147 => ?_) (fun hg147 => ?_)
                                · have hg146 := not_true hg147
                                  refine WL_no rfl rfl hg147 rfl ?_
                                  refine WL_no rfl rfl hg147 rfl ?_
                                  refine WL_no rfl rfl hg147 rfl ?_
                                  refine WL_q rfl (ev_pick_t rfl hg147 rfl) ?_
                                  refine WL_nil ?_
                                  refine thenE_n ?_
                                  refine W_cond_t rfl ?_
                                  refine W_seq ?_
                                  refine W_region ?_
                                  refine WL_q rfl (ev_assign rfl) ?_
                                  refine WL_nil ?_
                                  refine thenE_n ?_
                                  refine W_ret ?_
                                  refine thenE_r ?_
                                  refine ret1 rfl rfl ?_
                                  first | (exact ⟨rfl, hE⟩) | (exact (bneE hg146 (hr141.det1 hr48)).elim) | (exact absurd (hr141.det1 hr48) hp146) | (exact absurd (hr141.det1 hr48) (of_decide_eq_false hg146)) | (exact (bneE hg146 (hr141.det2 hr48)).elim) | (exact absurd (hr141.det2 hr48) hp146) | (exact absurd (hr141.det2 hr48) (of_decide_eq_false hg146)) | (exact (bneE hg146 (hr141.det3 hr48)).elim) | (exact absurd (hr141.det3 hr48) hp146) | (exact absurd (hr141.det3 hr48) (of_decide_eq_false hg146)) | (exact (bneE hg146 (hr64.det1 hr48)).elim) | (exact absurd (hr64.det1 hr48) hp146) | (exact absurd (hr64.det1 hr48) (of_decide_eq_false hg146)) | (exact (bneE hg146 (hr64.det2 hr48)).elim) | (exact absurd (hr64.det2 hr48) hp146) | (exact absurd (hr64.det2 hr48) (of_decide_eq_false hg146)) | (exact (bneE hg146 (hr64.det3 hr48)).elim) | (exact absurd (hr64.det3 hr48) hp146) | (exact absurd (hr64.det3 hr48) (of_decide_eq_false hg146)) | (exact (tfX hg146).elim) | (exact (decF hg146).elim) | (exfalso; omega)
                                · have hg146 := not_false hg147
                                  refine WL_qg rfl rfl hg147 rfl (ev_move rfl) ?_
                                  refine WL_qg rfl rfl hg147 rfl (ev_move rfl) ?_
                                  refine WL_qg rfl rfl hg147 rfl (ev_neq_b Try.underlying4 rfl rfl) ?_
                                  refine WL_q rfl (ev_pick_f rfl hg147 rfl) ?_
                                  refine WL_nil ?_
                                  refine thenE_n ?_
                                  refine W_cond rfl (fun hg151 => ?_) (fun hg151 => ?_)
                                  · refine W_seq ?_
                                    refine W_region ?_
                                    refine WL_q rfl (ev_assign rfl) ?_
                                    refine WL_nil ?_
                                    refine thenE_n ?_
                                    refine W_ret ?_
                                    refine thenE_r ?_
                                    refine ret1 rfl rfl ?_
                                    first | (exact ⟨rfl, hE⟩) | (exact (bneE hg151 (hr141.det1 hr48)).elim) | (exact absurd (hr141.det1 hr48) hp151) | (exact absurd (hr141.det1 hr48) (of_decide_eq_false hg151)) | (exact (bneE hg151 (hr141.det2 hr48)).elim) | (exact absurd (hr141.det2 hr48) hp151) | (exact absurd (hr141.det2 hr48) (of_decide_eq_false hg151)) | (exact (bneE hg151 (hr141.det3 hr48)).elim) | (exact absurd (hr141.det3 hr48) hp151) | (exact absurd (hr141.det3 hr48) (of_decide_eq_false hg151)) | (exact (bneE hg151 (hr64.det1 hr48)).elim) | (exact absurd (hr64.det1 hr48) hp151) | (exact absurd (hr64.det1 hr48) (of_decide_eq_false hg151)) | (exact (bneE hg151 (hr64.det2 hr48)).elim) | (exact absurd (hr64.det2 hr48) hp151) | (exact absurd (hr64.det2 hr48) (of_decide_eq_false hg151)) | (exact (bneE hg151 (hr64.det3 hr48)).elim) | (exact absurd (hr64.det3 hr48) hp151) | (exact absurd (hr64.det3 hr48) (of_decide_eq_false hg151)) | (exact (tfX hg151).elim) | (exact (decF hg151).elim) | (exfalso; omega)
                                  · refine W_skip ?_
                                    refine thenE_n ?_
                                    refine W_seq ?_
                                    refine W_region ?_
                                    refine WL_q rfl (ev_assign rfl) ?_
                                    refine WL_nil ?_
                                    refine thenE_n ?_
                                    refine W_seq ?_
                                    refine W_region ?_
                                    refine WL_q rfl (ev_move rfl) ?_
                                    refine WL_q rfl (ev_move rfl) ?_
                                    refine WL_m rfl (ev_call rfl (heldIntS_spec _ _ (nums 1 y64.length) _ _ (Ints.of_own (nums_len _ _) hO64.1) rfl (by omega) (by omega))) ?_
                                    rintro _ w155 ⟨rfl, hE155⟩
                                    have hz155 := hE155.size
                                    replace hE := hE.trans hE155
                                    replace hA := hA.ext hE155
                                    replace hB := hB.ext hE155
                                    replace hm := hm.ext hE155
                                    replace hl := hl.ext hE155
                                    replace hB4 := hB4.ext hE155
                                    replace hB5 := hB5.ext hE155
                                    replace hF41 := hF41.ext hE155
                                    replace hN41 := hN41.ext hE155
                                    replace hF43 := hF43.ext hE155
                                    replace hN43 := hN43.ext hE155
                                    replace hF45 := hF45.ext hE155
                                    replace hI45 := hI45.ext hE155
                                    replace hF47 := hF47.ext hE155
                                    replace hI47 := hI47.ext hE155
                                    replace hx48 := hx48.ext hE155
                                    replace hB12 := hB12.ext hE155
                                    replace hB13 := hB13.ext hE155
                                    replace hO64 := hO64.ext hE155
                                    replace hF78 := hF78.ext hE155
                                    replace hN78 := hN78.ext hE155
                                    replace hF83 := hF83.ext hE155
                                    replace hN83 := hN83.ext hE155
                                    replace hF88 := hF88.ext hE155
                                    replace hI88 := hI88.ext hE155
                                    replace hF93 := hF93.ext hE155
                                    replace hI93 := hI93.ext hE155
                                    replace hF134 := hF134.ext hE155
                                    replace hN134 := hN134.ext hE155
                                    replace hF136 := hF136.ext hE155
                                    replace hN136 := hN136.ext hE155
                                    replace hF138 := hF138.ext hE155
                                    replace hI138 := hI138.ext hE155
                                    replace hF140 := hF140.ext hE155
                                    replace hI140 := hI140.ext hE155
                                    replace hO141 := hO141.ext hE155
                                    refine WL_q rfl (ev_assign rfl) ?_
                                    refine WL_nil ?_
                                    refine thenE_n ?_
                                    refine W_seq ?_
                                    refine W_seq ?_
                                    refine W_region ?_
                                    refine WL_q rfl (ev_move rfl) ?_
                                    refine WL_q rfl (ev_lss rfl rfl) ?_
                                    refine WL_nil ?_
                                    refine thenE_n ?_
                                    refine W_cond rfl (fun hg157 => ?_) (fun hg157 => ?_)
                                    · have hp157 := of_decide_eq_true hg157
                                      refine W_seq ?_
                                      refine W_region ?_
                                      refine WL_q rfl (ev_assign rfl) ?_
                                      refine WL_nil ?_
                                      refine thenE_n ?_
                                      refine W_ret ?_
                                      refine thenE_r ?_
                                      refine ret1 rfl rfl ?_
                                      first | (exact ⟨rfl, hE⟩) | (exact (bneE hg157 (hr141.det1 hr48)).elim) | (exact absurd (hr141.det1 hr48) hp157) | (exact absurd (hr141.det1 hr48) (of_decide_eq_false hg157)) | (exact (bneE hg157 (hr141.det2 hr48)).elim) | (exact absurd (hr141.det2 hr48) hp157) | (exact absurd (hr141.det2 hr48) (of_decide_eq_false hg157)) | (exact (bneE hg157 (hr141.det3 hr48)).elim) | (exact absurd (hr141.det3 hr48) hp157) | (exact absurd (hr141.det3 hr48) (of_decide_eq_false hg157)) | (exact (bneE hg157 (hr64.det1 hr48)).elim) | (exact absurd (hr64.det1 hr48) hp157) | (exact absurd (hr64.det1 hr48) (of_decide_eq_false hg157)) | (exact (bneE hg157 (hr64.det2 hr48)).elim) | (exact absurd (hr64.det2 hr48) hp157) | (exact absurd (hr64.det2 hr48) (of_decide_eq_false hg157)) | (exact (bneE hg157 (hr64.det3 hr48)).elim) | (exact absurd (hr64.det3 hr48) hp157) | (exact absurd (hr64.det3 hr48) (of_decide_eq_false hg157)) | (exact (tfX hg157).elim) | (exact (decF hg157).elim) | (exfalso; omega)
                                    · have hp157 := of_decide_eq_false hg157
                                      refine W_skip ?_
                                      refine thenE_n ?_
                                      refine W_seq ?_
                                      refine W_seq ?_
                                      refine W_region ?_
                                      refine WL_q rfl (ev_move rfl) ?_
                                      refine WL_q rfl (ev_move rfl) ?_
                                      refine WL_q rfl (ev_neq rfl rfl) ?_
                                      refine WL_nil ?_
                                      refine thenE_n ?_
                                      refine W_cond rfl (fun hg160 => ?_) (fun hg160 => ?_)
                                      · have hp160 := of_decide_eq_true hg160
                                        refine W_seq ?_
                                        refine W_region ?_
                                        refine WL_q rfl (ev_assign rfl) ?_
                                        refine WL_nil ?_
                                        refine thenE_n ?_
                                        refine W_ret ?_
                                        refine thenE_r ?_
                                        refine ret1 rfl rfl ?_
                                        first | (exact ⟨rfl, hE⟩) | (exact (bneE hg160 (hr141.det1 hr48)).elim) | (exact absurd (hr141.det1 hr48) hp160) | (exact absurd (hr141.det1 hr48) (of_decide_eq_false hg160)) | (exact (bneE hg160 (hr141.det2 hr48)).elim) | (exact absurd (hr141.det2 hr48) hp160) | (exact absurd (hr141.det2 hr48) (of_decide_eq_false hg160)) | (exact (bneE hg160 (hr141.det3 hr48)).elim) | (exact absurd (hr141.det3 hr48) hp160) | (exact absurd (hr141.det3 hr48) (of_decide_eq_false hg160)) | (exact (bneE hg160 (hr64.det1 hr48)).elim) | (exact absurd (hr64.det1 hr48) hp160) | (exact absurd (hr64.det1 hr48) (of_decide_eq_false hg160)) | (exact (bneE hg160 (hr64.det2 hr48)).elim) | (exact absurd (hr64.det2 hr48) hp160) | (exact absurd (hr64.det2 hr48) (of_decide_eq_false hg160)) | (exact (bneE hg160 (hr64.det3 hr48)).elim) | (exact absurd (hr64.det3 hr48) hp160) | (exact absurd (hr64.det3 hr48) (of_decide_eq_false hg160)) | (exact (tfX hg160).elim) | (exact (decF hg160).elim) | (exfalso; omega)
                                      · have hp160 := of_decide_eq_false hg160
                                        refine W_skip ?_
                                        refine thenE_n ?_
                                        refine W_seq ?_
                                        refine W_region ?_
                                        refine WL_q rfl (ev_assign rfl) ?_
                                        refine WL_nil ?_
                                        refine thenE_n ?_
                                        refine W_ret ?_
                                        refine ret1 rfl rfl ?_
                                        first | (exact ⟨rfl, hE⟩) | (exact (bneE hg160 (hr141.det1 hr48)).elim) | (exact absurd (hr141.det1 hr48) hp160) | (exact absurd (hr141.det1 hr48) (of_decide_eq_false hg160)) | (exact (bneE hg160 (hr141.det2 hr48)).elim) | (exact absurd (hr141.det2 hr48) hp160) | (exact absurd (hr141.det2 hr48) (of_decide_eq_false hg160)) | (exact (bneE hg160 (hr141.det3 hr48)).elim) | (exact absurd (hr141.det3 hr48) hp160) | (exact absurd (hr141.det3 hr48) (of_decide_eq_false hg160)) | (exact (bneE hg160 (hr64.det1 hr48)).elim) | (exact absurd (hr64.det1 hr48) hp160) | (exact absurd (hr64.det1 hr48) (of_decide_eq_false hg160)) | (exact (bneE hg160 (hr64.det2 hr48)).elim) | (exact absurd (hr64.det2 hr48) hp160) | (exact absurd (hr64.det2 hr48) (of_decide_eq_false hg160)) | (exact (bneE hg160 (hr64.det3 hr48)).elim) | (exact absurd (hr64.det3 hr48) hp160) | (exact absurd (hr64.det3 hr48) (of_decide_eq_false hg160)) | (exact (tfX hg160).elim) | (exact (decF hg160).elim) | (exfalso; omega)

end Go.Proofs.Ytgnlfhggebijcaa
