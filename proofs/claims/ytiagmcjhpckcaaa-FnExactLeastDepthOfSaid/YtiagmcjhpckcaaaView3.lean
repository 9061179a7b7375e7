/- Contracts of conflicts of outputs and of the least depth without one; the walks of FnExactConflictOf and FnExactLeastDepthOf. -/
import Derived.Test.YtiagmcjhpckcaaaView2
namespace Go.Proofs.Ytiagmcjhpckcaaa
open Go Go.RowKit

/-- Nodes u < v have one class and different outputs. -/
def ConfAt (X O : List Int) (u v : Nat) : Prop := u < v ∧ v < X.length ∧ X.getD u 0 = X.getD v 0 ∧ O.getD u 0 ≠ O.getD v 0
/-- The first conflict, if there is one. -/
def CR (X O : List Int) (r s : Int) (b : Bool) : Prop :=
  (b = true ∧ ∃ u v : Nat, r = (u : Int) ∧ s = (v : Int) ∧ ConfAt X O u v ∧ (∀ u' v', u' < u → ¬ ConfAt X O u' v') ∧ ∀ v', v' < v → ¬ ConfAt X O u v') ∨ (b = false ∧ r = 0 ∧ s = 0 ∧ ∀ u v, ¬ ConfAt X O u v)
theorem CR.det {X O : List Int} {r s r' s' : Int} {b b' : Bool} (h : CR X O r s b) (k : CR X O r' s' b') : r = r' ∧ s = s' ∧ b = b' := by
  rcases h with ⟨hb, u, v, hr, hs, h1, h2, h3⟩ | ⟨hb, hr, hs, h1⟩ <;> rcases k with ⟨kb, u', v', kr, ks, k1, k2, k3⟩ | ⟨kb, kr, ks, k1⟩
  · have hu : u = u' := by
      rcases Nat.lt_trichotomy u u' with e | e | e
      · exact absurd h1 (k2 u v e)
      · exact e
      · exact absurd k1 (h2 u' v' e)
    subst hu
    have hv : v = v' := by
      rcases Nat.lt_trichotomy v v' with e | e | e
      · exact absurd h1 (k3 v e)
      · exact e
      · exact absurd k1 (h3 v' e)
    subst hv
    exact ⟨by rw [hr, kr], by rw [hs, ks], by rw [hb, kb]⟩
  · exact absurd h1 (k1 u v)
  · exact absurd k1 (h1 u' v')
  · exact ⟨by rw [hr, kr], by rw [hs, ks], by rw [hb, kb]⟩
theorem CR.none {X O : List Int} {r s : Int} {b : Bool} (h : CR X O r s b) : b = false ↔ ∀ u v, ¬ ConfAt X O u v := by
  rcases h with ⟨hb, u, v, hr, hs, h1, h2, h3⟩ | ⟨hb, hr, hs, h1⟩
  · exact ⟨fun e => (by rw [hb] at e; cases e), fun e => absurd h1 (e u v)⟩
  · exact ⟨fun _ => h1, fun _ => hb⟩
theorem confAt_iff {X O : List Int} {u v n : Nat} (hX : X.length = n) (hO : O.length = n) (huv : u < v) (hv : v < n) {h1 : u < X.length} {h2 : v < X.length} {h3 : u < O.length} {h4 : v < O.length} : ConfAt X O u v ↔ X[u] = X[v] ∧ O[u] ≠ O[v] := by
  unfold ConfAt
  rw [getD_eq h1, getD_eq h2, getD_eq h3, getD_eq h4]
  exact ⟨fun h => h.2.2, fun h => ⟨huv, h2, h.1, h.2⟩⟩

set_option maxRecDepth 100000 in
theorem conflictIn_spec {lo hi lo2 hi2 n : Nat} (a a2 : Option Addr) (c c2 : Nat) (X O : List Int) (w : World) (hX : Ints lo hi w a c X) (hO : Ints lo2 hi2 w a2 c2 O) (hXl : X.length = n) (hOl : O.length = n) (hn : n ≤ 1048576) :
    Fn Try.prog 72 #[.slice a n c, .slice a2 n c2] w (fun r w' => ∃ x y b, r = .tuple #[VI x, VI y, VB b] ∧ CR X O x y b ∧ Ext w w') := by
  have hE := Ext.refl w
  refine Fn_of Try.func72 rfl rfl (by kernel_rfl) rfl ?_
  refine W_seq ?_
  refine W_region ?_
  refine WL_q rfl (ev_assign rfl) ?_
  refine WL_q rfl (ev_assign rfl) ?_
  refine WL_q rfl (ev_assign rfl) ?_
  refine WL_nil ?_
  refine thenE_n ?_
  refine W_seq ?_
  refine W_seq ?_
  refine W_region ?_
  refine WL_q rfl (ev_move rfl) ?_
  refine WL_q rfl (ev_len Try.underlying23 rfl) ?_
  refine WL_q rfl (ev_move rfl) ?_
  refine WL_nil ?_
  refine thenE_n ?_
  refine W_block ?_
  refine W_loopC (G := Nat) [(0, _), (1, _), (10, _)] ((Subs.c rfl (Subs.c rfl (Subs.c rfl Subs.n)))) (fun i => [(11, VI (i : Int))]) (fun i w' => Ext w w' ∧ i ≤ n ∧ ∀ u v, u < i → ¬ ConfAt X O u v) (fun i => n - i) 0 ((Subs.c (lkI rfl (by omega)) Subs.n)) (⟨Ext.refl _, ⟨by omega, fun u v h => absurd h (Nat.not_lt_zero _)⟩⟩) ?_
  rintro i wL0 ⟨hRL0, hi', hJ⟩
  have hzL0 := hRL0.size
  replace hE := hE.trans hRL0
  replace hX := hX.ext hRL0
  replace hO := hO.ext hRL0
  refine W_seq ?_
  refine W_region ?_
  refine WL_q rfl (ev_lss rfl rfl) ?_
  refine WL_nil ?_
  refine thenE_n ?_
  refine W_seq ?_
  refine W_cond rfl (fun hg12 => ?_) (fun hg12 => ?_)
  · have hp12 := of_decide_eq_true hg12
    refine W_skip ?_
    refine thenE_n ?_
    refine W_seq ?_
    refine W_block ?_
    refine W_seq ?_
    refine W_region ?_
    refine WL_q rfl (ev_move rfl) ?_
    refine WL_q rfl (ev_assign rfl) ?_
    refine WL_nil ?_
    refine thenE_n ?_
    refine W_seq ?_
    refine W_region ?_
    refine WL_q rfl (ev_move rfl) ?_
    refine WL_q rfl (ev_add rfl rfl (by omega)) ?_
    refine WL_q rfl (ev_assign rfl) ?_
    refine WL_nil ?_
    refine thenE_n ?_
    refine W_block ?_
    refine W_loopC (G := Nat) [(0, _), (1, _), (7, _), (10, _), (11, _)] ((Subs.c rfl (Subs.c rfl (Subs.c rfl (Subs.c rfl (Subs.c rfl Subs.n)))))) (fun k => [(8, VI (k : Int))]) (fun k w' => Ext wL0 w' ∧ (i + 1 ≤ k ∧ k ≤ n) ∧ ∀ v, v < k → ¬ ConfAt X O i v) (fun k => n - k) (i + 1) ((Subs.c (lkI rfl (by omega)) Subs.n)) (⟨Ext.refl _, ⟨by omega, fun v hv hc => by have := hc.1; omega⟩⟩) ?_
    rintro k wL2 ⟨hRL2, ⟨hk', hk2⟩, hJ2⟩
    have hzL2 := hRL2.size
    replace hE := hE.trans hRL2
    replace hRL0 := hRL0.trans hRL2
    replace hX := hX.ext hRL2
    replace hO := hO.ext hRL2
    refine W_seq ?_
    refine W_seq ?_
    refine W_region ?_
    refine WL_q rfl (ev_move rfl) ?_
    refine WL_q rfl (ev_move rfl) ?_
    refine WL_q rfl (ev_len Try.underlying23 rfl) ?_
    refine WL_q rfl (ev_lss rfl rfl) ?_
    refine WL_nil ?_
    refine thenE_n ?_
    refine W_cond rfl (fun hg19 => ?_) (fun hg19 => ?_)
    · have hp19 := of_decide_eq_true hg19
      refine W_skip ?_
      refine thenE_n ?_
      refine W_seq ?_
      refine W_block ?_
      refine W_seq ?_
      refine W_drawE [(0, true), (1, true), (2, true), (3, true), (4, true), (5, true), (6, true), (7, true), (8, true), (9, true), (10, true), (11, true), (12, true), (13, true), (14, true), (15, true), (16, true), (17, true), (18, true), (19, true)] mixed (by kernel_rfl) rfl (by kernel_rfl) ?_
      intro wd7 hEd7 hzd7
      replace hE := hE.trans hEd7
      replace hRL0 := hRL0.trans hEd7
      replace hRL2 := hRL2.trans hEd7
      replace hX := hX.ext hEd7
      replace hO := hO.ext hEd7
      have hDd7 := Ext.refl wd7
      refine PW_q rfl rfl (fun wq hq => ev_move rfl) ?_
      refine PW_q rfl rfl (fun wq hq => ev_move rfl) ?_
      refine PW_q rfl rfl (fun wq hq => ev_indexAddr Try.underlying23 sz3 rfl rfl (hX.isSome (by omega)) (by omega) (by omega)) ?_
      have hc25 := hX.cell (i := i) (by omega)
      refine PW_q rfl rfl (fun wq hq => ev_load one3 rfl (hq.cell (hc25))) ?_
      refine PW_q rfl rfl (fun wq hq => ev_move rfl) ?_
      refine PW_q rfl rfl (fun wq hq => ev_move rfl) ?_
      refine PW_q rfl rfl (fun wq hq => ev_indexAddr Try.underlying23 sz3 rfl rfl (hX.isSome (by omega)) (by omega) (by omega)) ?_
      have hc29 := hX.cell (i := k) (by omega)
      refine PW_q rfl rfl (fun wq hq => ev_load one3 rfl (hq.cell (hc29))) ?_
      refine PW_q rfl rfl (fun wq hq => ev_eql rfl rfl) ?_
      refine PW_q rfl rfl (fun wq hq => ev_move rfl) ?_
      refine PW_splitv (t := 31) rfl (fun hg30 => ?_) (fun hg30 => ?_)
      · have hp30 := of_decide_eq_true hg30
        refine PW_qg rfl rfl rfl hg30 rfl (fun wq hq => ev_move rfl) ?_
        refine PW_qg rfl rfl rfl hg30 rfl (fun wq hq => ev_move rfl) ?_
        refine PW_qg rfl rfl rfl hg30 rfl (fun wq hq => ev_indexAddr Try.underlying23 sz3 rfl rfl (hO.isSome (by omega)) (by omega) (by omega)) ?_
        have hc35 := hO.cell (i := i) (by omega)
        refine PW_qg rfl rfl rfl hg30 rfl (fun wq hq => ev_load one3 rfl (hq.cell (hc35))) ?_
        refine PW_qg rfl rfl rfl hg30 rfl (fun wq hq => ev_move rfl) ?_
        refine PW_qg rfl rfl rfl hg30 rfl (fun wq hq => ev_move rfl) ?_
        refine PW_qg rfl rfl rfl hg30 rfl (fun wq hq => ev_indexAddr Try.underlying23 sz3 rfl rfl (hO.isSome (by omega)) (by omega) (by omega)) ?_
        have hc39 := hO.cell (i := k) (by omega)
        refine PW_qg rfl rfl rfl hg30 rfl (fun wq hq => ev_load one3 rfl (hq.cell (hc39))) ?_
        refine PW_qg rfl rfl rfl hg30 rfl (fun wq hq => ev_neq rfl rfl) ?_
        refine PW_q rfl rfl (fun wq hq => ev_pick_t rfl hg30 rfl) ?_
        refine PW_nil ?_
        refine thenE_n ?_
        refine W_cond rfl (fun hg40 => ?_) (fun hg40 => ?_)
        · have hp40 := of_decide_eq_true hg40
          refine W_seq ?_
          refine W_region ?_
          refine WL_q rfl (ev_move rfl) ?_
          refine WL_q rfl (ev_move rfl) ?_
          refine WL_q rfl (ev_assign rfl) ?_
          refine WL_q rfl (ev_assign rfl) ?_
          refine WL_q rfl (ev_assign rfl) ?_
          refine WL_nil ?_
          refine thenE_n ?_
          refine W_ret ?_
          refine blockE_r ?_
          refine thenE_r ?_
          refine thenE_r ?_
          refine blockE_r ?_
          refine blockE_r ?_
          refine thenE_r ?_
          refine thenE_r ?_
          refine blockE_r ?_
          refine thenE_r ?_
          refine ret3 rfl rfl rfl rfl ?_
          first | (exact ⟨_, _, _, rfl, .inl ⟨rfl, i, k, rfl, rfl, (confAt_iff hXl hOl (by omega) (by omega) (h1 := by omega) (h2 := by omega) (h3 := by omega) (h4 := by omega)).2 ⟨by omega, by omega⟩, fun u v hu => hJ u v hu, fun v hv => hJ2 v hv⟩, hE⟩) | (exact ⟨_, _, _, rfl, .inr ⟨rfl, rfl, rfl, fun u v hc => hJ u v (by have := hc.1; have := hc.2.1; omega) hc⟩, hE⟩)
        · have hp40 := of_decide_eq_false hg40
          refine W_skip ?_
          refine blockE_n ?_
          refine thenE_n ?_
          refine W_region ?_
          refine WL_q rfl (ev_move rfl) ?_
          refine WL_q rfl (ev_add rfl rfl (by omega)) ?_
          refine WL_q rfl (ev_assign rfl) ?_
          refine WL_nil ?_
          refine thenE_n ?_
          exact ⟨k + 1, (Subs.c rfl (Subs.c rfl (Subs.c rfl (Subs.c rfl (Subs.c rfl Subs.n))))), (Subs.c (lkI rfl (by omega)) Subs.n), ⟨hRL2, ⟨by omega, fun v hv hc => by rcases Nat.lt_succ_iff_lt_or_eq.1 hv with h | h; exact hJ2 v h hc; subst h; have h9 := (confAt_iff hXl hOl (by omega) (by omega) (h1 := by omega) (h2 := by omega) (h3 := by omega) (h4 := by omega)).1 hc; omega⟩⟩, by first | omega | (dsimp only; omega)⟩
      · have hp30 := of_decide_eq_false hg30
        refine PW_no rfl rfl rfl hg30 rfl ?_
        refine PW_no rfl rfl rfl hg30 rfl ?_
        refine PW_no rfl rfl rfl hg30 rfl ?_
        refine PW_no rfl rfl rfl hg30 rfl ?_
        refine PW_no rfl rfl rfl hg30 rfl ?_
        refine PW_no rfl rfl rfl hg30 rfl ?_
        refine PW_no rfl rfl rfl hg30 rfl ?_
        refine PW_no rfl rfl rfl hg30 rfl ?_
        refine PW_no rfl rfl rfl hg30 rfl ?_
        refine PW_q rfl rfl (fun wq hq => ev_pick_f rfl hg30 rfl) ?_
        refine PW_nil ?_
        refine thenE_n ?_
        refine W_cond_f rfl ?_
        refine W_skip ?_
        refine blockE_n ?_
        refine thenE_n ?_
        refine W_region ?_
        refine WL_q rfl (ev_move rfl) ?_
        refine WL_q rfl (ev_add rfl rfl (by omega)) ?_
        refine WL_q rfl (ev_assign rfl) ?_
        refine WL_nil ?_
        refine thenE_n ?_
        exact ⟨k + 1, (Subs.c rfl (Subs.c rfl (Subs.c rfl (Subs.c rfl (Subs.c rfl Subs.n))))), (Subs.c (lkI rfl (by omega)) Subs.n), ⟨hRL2, ⟨by omega, fun v hv hc => by rcases Nat.lt_succ_iff_lt_or_eq.1 hv with h | h; exact hJ2 v h hc; subst h; have h9 := (confAt_iff hXl hOl (by omega) (by omega) (h1 := by omega) (h2 := by omega) (h3 := by omega) (h4 := by omega)).1 hc; omega⟩⟩, by first | omega | (dsimp only; omega)⟩
    · have hp19 := of_decide_eq_false hg19
      refine W_exit ?_
      refine thenE_x ?_
      refine thenE_x ?_
      refine blockE_hit ?_
      refine blockE_n ?_
      refine thenE_n ?_
      refine W_region ?_
      refine WL_q rfl (ev_add rfl rfl (by omega)) ?_
      refine WL_q rfl (ev_move rfl) ?_
      refine WL_nil ?_
      refine thenE_n ?_
      exact ⟨i + 1, (Subs.c rfl (Subs.c rfl (Subs.c rfl Subs.n))), (Subs.c (lkI rfl (by omega)) Subs.n), ⟨hRL0, ⟨by omega, fun u v hu hc => by rcases Nat.lt_succ_iff_lt_or_eq.1 hu with h | h; exact hJ u v h hc; subst h; exact hJ2 v (by have := hc.2.1; omega) hc⟩⟩, by first | omega | (dsimp only; omega)⟩
  · have hp12 := of_decide_eq_false hg12
    refine W_exit ?_
    refine thenE_x ?_
    refine thenE_x ?_
    refine blockE_hit ?_
    refine thenE_n ?_
    refine W_seq ?_
    refine W_region ?_
    refine WL_q rfl (ev_assign rfl) ?_
    refine WL_q rfl (ev_assign rfl) ?_
    refine WL_q rfl (ev_assign rfl) ?_
    refine WL_nil ?_
    refine thenE_n ?_
    refine W_ret ?_
    refine ret3 rfl rfl rfl rfl ?_
    first | (exact ⟨_, _, _, rfl, .inl ⟨rfl, i, k, rfl, rfl, (confAt_iff hXl hOl (by omega) (by omega) (h1 := by omega) (h2 := by omega) (h3 := by omega) (h4 := by omega)).2 ⟨by omega, by omega⟩, fun u v hu => hJ u v hu, fun v hv => hJ2 v hv⟩, hE⟩) | (exact ⟨_, _, _, rfl, .inr ⟨rfl, rfl, rfl, fun u v hc => hJ u v (by have := hc.1; have := hc.2.1; omega) hc⟩, hE⟩)

theorem conflictIn_len {lo hi lo2 hi2 n m : Nat} (a a2 : Option Addr) (c c2 : Nat) (X O : List Int) (w : World) (hX : Ints lo hi w a c X) (hO : Ints lo2 hi2 w a2 c2 O) (hXl : X.length = n) (hOl : O.length = n) (hn : n ≤ 1048576) (hm : m = n := by omega) :
    Fn Try.prog 72 #[.slice a n c, .slice a2 m c2] w (fun r w' => ∃ x y b, r = .tuple #[VI x, VI y, VB b] ∧ CR X O x y b ∧ Ext w w') := by subst hm; exact conflictIn_spec _ _ _ _ X O w hX hO hXl hOl hn

set_option maxRecDepth 100000 in
theorem taConflict_spec {loA hiA : Nat} (nA : NA) (A : Net) (t : Int) {loO hiO : Nat} (aO : Option Addr) (cO : Nat) (O : List Int) (w : World) (hA : IsNet loA hiA w nA A) (hhiA : hiA ≤ w.heap.size) (hnA : totN A ≤ 1048576) (hO : Ints loO hiO w aO cO O) (hhiO : hiO ≤ w.heap.size) (hnO : O.length ≤ 1048576) (hv : VOk A) (ht : 0 ≤ t ∧ t ≤ 1000) (hOn : O.length = A.ends.length) :
    Fn Try.prog 69 #[netV nA A, VI t, .slice aO O.length cO] w (fun r w' => ∃ x y b, r = .tuple #[VI x, VI y, VB b] ∧ CR (vw A t.toNat) O x y b ∧ Ext w w') := by
  have hqA := totL_len A.ends
  have hmA : totL A.ends + A.ids.length + A.inputs.length ≤ 1048576 := hnA
  have hpos := hv.pos
  obtain ⟨n, hnN⟩ : ∃ n, n = A.ends.length := ⟨_, rfl⟩
  have hXl : (vw A t.toNat).length = n := by rw [vw_len, hnN]
  have hOl : O.length = n := by omega
  have hE := Ext.refl w
  refine Fn_of Try.func69 rfl rfl (by kernel_rfl) rfl ?_
  refine W_seq ?_
  refine W_region ?_
  refine WL_m rfl (ev_box rfl) ?_
  rintro _ w3 ⟨rfl, hN3⟩
  have hz3 := hN3.size
  replace hE := hE.trans hN3.ext
  replace hA := hA.ext hN3.ext
  replace hO := hO.ext hN3.ext
  have hB3 : Blk w3 _ _ [_, _, _] := hN3.blk
  refine WL_q rfl (ev_assign rfl) ?_
  refine WL_q rfl (ev_assign rfl) ?_
  refine WL_q rfl (ev_assign rfl) ?_
  refine WL_nil ?_
  refine thenE_n ?_
  refine W_seq ?_
  refine W_region ?_
  refine WL_q rfl (ev_loads st41 sz41 rfl (cellsB hB3) rfl) ?_
  refine WL_q rfl (ev_move rfl) ?_
  refine WL_m rfl (ev_call rfl (viClasses_spec _ A _ _ hA (by omega) (by omega) (by assumption) (by omega))) ?_
  rintro _ w14 ⟨a14, c14, rfl, hO14, hE14⟩
  have hz14 := hE14.size
  replace hE := hE.trans hE14
  replace hA := hA.ext hE14
  replace hO := hO.ext hE14
  replace hB3 := hB3.ext hE14
  have hX := own_i hO14
  refine WL_q rfl (ev_assign rfl) ?_
  refine WL_nil ?_
  refine thenE_n ?_
  refine W_seq ?_
  refine W_seq ?_
  refine W_region ?_
  refine WL_q rfl (ev_move rfl) ?_
  refine WL_q rfl (ev_len Try.underlying23 rfl) ?_
  refine WL_q rfl (ev_move rfl) ?_
  refine WL_nil ?_
  refine thenE_n ?_
  refine W_block ?_
  refine W_loopC (G := Nat) [(2, _), (9, _), (16, _)] ((Subs.c rfl (Subs.c rfl (Subs.c rfl Subs.n)))) (fun i => [(17, VI (i : Int))]) (fun i w' => Ext w14 w' ∧ i ≤ n ∧ ∀ u v, u < i → ¬ ConfAt (vw A t.toNat) O u v) (fun i => n - i) 0 ((Subs.c (lkI rfl (by omega)) Subs.n)) (⟨Ext.refl _, ⟨by omega, fun u v h => absurd h (Nat.not_lt_zero _)⟩⟩) ?_
  rintro i wL0 ⟨hRL0, hi', hJ⟩
  have hzL0 := hRL0.size
  replace hE := hE.trans hRL0
  replace hA := hA.ext hRL0
  replace hO := hO.ext hRL0
  replace hB3 := hB3.ext hRL0
  replace hX := hX.ext hRL0
  refine W_seq ?_
  refine W_region ?_
  refine WL_q rfl (ev_lss rfl rfl) ?_
  refine WL_nil ?_
  refine thenE_n ?_
  refine W_seq ?_
  refine W_cond rfl (fun hg18 => ?_) (fun hg18 => ?_)
  · have hp18 := of_decide_eq_true hg18
    refine W_skip ?_
    refine thenE_n ?_
    refine W_seq ?_
    refine W_block ?_
    refine W_seq ?_
    refine W_region ?_
    refine WL_q rfl (ev_move rfl) ?_
    refine WL_q rfl (ev_assign rfl) ?_
    refine WL_nil ?_
    refine thenE_n ?_
    refine W_seq ?_
    refine W_region ?_
    refine WL_q rfl (ev_move rfl) ?_
    refine WL_q rfl (ev_add rfl rfl (by omega)) ?_
    refine WL_q rfl (ev_assign rfl) ?_
    refine WL_nil ?_
    refine thenE_n ?_
    refine W_block ?_
    refine W_loopC (G := Nat) [(2, _), (9, _), (10, _), (16, _), (17, _)] ((Subs.c rfl (Subs.c rfl (Subs.c rfl (Subs.c rfl (Subs.c rfl Subs.n)))))) (fun k => [(11, VI (k : Int))]) (fun k w' => Ext wL0 w' ∧ (i + 1 ≤ k ∧ k ≤ n) ∧ ∀ v, v < k → ¬ ConfAt (vw A t.toNat) O i v) (fun k => n - k) (i + 1) ((Subs.c (lkI rfl (by omega)) Subs.n)) (⟨Ext.refl _, ⟨by omega, fun v hv hc => by have := hc.1; omega⟩⟩) ?_
    rintro k wL2 ⟨hRL2, ⟨hk', hk2⟩, hJ2⟩
    have hzL2 := hRL2.size
    replace hE := hE.trans hRL2
    replace hRL0 := hRL0.trans hRL2
    replace hA := hA.ext hRL2
    replace hO := hO.ext hRL2
    replace hB3 := hB3.ext hRL2
    replace hX := hX.ext hRL2
    refine W_seq ?_
    refine W_seq ?_
    refine W_region ?_
    refine WL_q rfl (ev_move rfl) ?_
    refine WL_q rfl (ev_move rfl) ?_
    refine WL_q rfl (ev_len Try.underlying23 rfl) ?_
    refine WL_q rfl (ev_lss rfl rfl) ?_
    refine WL_nil ?_
    refine thenE_n ?_
    refine W_cond rfl (fun hg25 => ?_) (fun hg25 => ?_)
    · have hp25 := of_decide_eq_true hg25
      refine W_skip ?_
      refine thenE_n ?_
      refine W_seq ?_
      refine W_block ?_
      refine W_seq ?_
      refine W_drawE [(0, true), (1, true), (2, true), (3, true), (4, true), (5, true), (6, true), (7, true), (8, true), (9, true), (10, true), (11, true), (12, true), (13, true), (14, true), (15, true), (16, true), (17, true), (18, true), (19, true)] mixed (by kernel_rfl) rfl (by kernel_rfl) ?_
      intro wd8 hEd8 hzd8
      replace hE := hE.trans hEd8
      replace hRL0 := hRL0.trans hEd8
      replace hRL2 := hRL2.trans hEd8
      replace hA := hA.ext hEd8
      replace hO := hO.ext hEd8
      replace hB3 := hB3.ext hEd8
      replace hX := hX.ext hEd8
      have hDd8 := Ext.refl wd8
      refine PW_q rfl rfl (fun wq hq => ev_move rfl) ?_
      refine PW_q rfl rfl (fun wq hq => ev_move rfl) ?_
      refine PW_q rfl rfl (fun wq hq => ev_indexAddr Try.underlying23 sz3 rfl rfl (hX.isSome (by omega)) (by omega) (by omega)) ?_
      have hc31 := hX.cell (i := i) (by omega)
      refine PW_q rfl rfl (fun wq hq => ev_load one3 rfl (hq.cell (hc31))) ?_
      refine PW_q rfl rfl (fun wq hq => ev_move rfl) ?_
      refine PW_q rfl rfl (fun wq hq => ev_move rfl) ?_
      refine PW_q rfl rfl (fun wq hq => ev_indexAddr Try.underlying23 sz3 rfl rfl (hX.isSome (by omega)) (by omega) (by omega)) ?_
      have hc35 := hX.cell (i := k) (by omega)
      refine PW_q rfl rfl (fun wq hq => ev_load one3 rfl (hq.cell (hc35))) ?_
      refine PW_q rfl rfl (fun wq hq => ev_eql rfl rfl) ?_
      refine PW_q rfl rfl (fun wq hq => ev_move rfl) ?_
      refine PW_splitv (t := 37) rfl (fun hg36 => ?_) (fun hg36 => ?_)
      · have hp36 := of_decide_eq_true hg36
        refine PW_qg rfl rfl rfl hg36 rfl (fun wq hq => ev_move rfl) ?_
        refine PW_qg rfl rfl rfl hg36 rfl (fun wq hq => ev_move rfl) ?_
        refine PW_qg rfl rfl rfl hg36 rfl (fun wq hq => ev_indexAddr Try.underlying23 sz3 rfl rfl (hO.isSome (by omega)) (by omega) (by omega)) ?_
        have hc41 := hO.cell (i := i) (by omega)
        refine PW_qg rfl rfl rfl hg36 rfl (fun wq hq => ev_load one3 rfl (hq.cell (hc41))) ?_
        refine PW_qg rfl rfl rfl hg36 rfl (fun wq hq => ev_move rfl) ?_
        refine PW_qg rfl rfl rfl hg36 rfl (fun wq hq => ev_move rfl) ?_
        refine PW_qg rfl rfl rfl hg36 rfl (fun wq hq => ev_indexAddr Try.underlying23 sz3 rfl rfl (hO.isSome (by omega)) (by omega) (by omega)) ?_
        have hc45 := hO.cell (i := k) (by omega)
        refine PW_qg rfl rfl rfl hg36 rfl (fun wq hq => ev_load one3 rfl (hq.cell (hc45))) ?_
        refine PW_qg rfl rfl rfl hg36 rfl (fun wq hq => ev_neq rfl rfl) ?_
        refine PW_q rfl rfl (fun wq hq => ev_pick_t rfl hg36 rfl) ?_
        refine PW_nil ?_
        refine thenE_n ?_
        refine W_cond rfl (fun hg46 => ?_) (fun hg46 => ?_)
        · have hp46 := of_decide_eq_true hg46
          refine W_seq ?_
          refine W_region ?_
          refine WL_q rfl (ev_move rfl) ?_
          refine WL_q rfl (ev_move rfl) ?_
          refine WL_q rfl (ev_assign rfl) ?_
          refine WL_q rfl (ev_assign rfl) ?_
          refine WL_q rfl (ev_assign rfl) ?_
          refine WL_nil ?_
          refine thenE_n ?_
          refine W_ret ?_
          refine blockE_r ?_
          refine thenE_r ?_
          refine thenE_r ?_
          refine blockE_r ?_
          refine blockE_r ?_
          refine thenE_r ?_
          refine thenE_r ?_
          refine blockE_r ?_
          refine thenE_r ?_
          refine ret3 rfl rfl rfl rfl ?_
          first | (exact ⟨_, _, _, rfl, .inl ⟨rfl, i, k, rfl, rfl, (confAt_iff hXl hOl (by omega) (by omega) (h1 := by omega) (h2 := by omega) (h3 := by omega) (h4 := by omega)).2 ⟨by omega, by omega⟩, fun u v hu => hJ u v hu, fun v hv => hJ2 v hv⟩, hE⟩) | (exact ⟨_, _, _, rfl, .inr ⟨rfl, rfl, rfl, fun u v hc => hJ u v (by have := hc.1; have := hc.2.1; omega) hc⟩, hE⟩)
        · have hp46 := of_decide_eq_false hg46
          refine W_skip ?_
          refine blockE_n ?_
          refine thenE_n ?_
          refine W_region ?_
          refine WL_q rfl (ev_move rfl) ?_
          refine WL_q rfl (ev_add rfl rfl (by omega)) ?_
          refine WL_q rfl (ev_assign rfl) ?_
          refine WL_nil ?_
          refine thenE_n ?_
          exact ⟨k + 1, (Subs.c rfl (Subs.c rfl (Subs.c rfl (Subs.c rfl (Subs.c rfl Subs.n))))), (Subs.c (lkI rfl (by omega)) Subs.n), ⟨hRL2, ⟨by omega, fun v hv hc => by rcases Nat.lt_succ_iff_lt_or_eq.1 hv with h | h; exact hJ2 v h hc; subst h; have h9 := (confAt_iff hXl hOl (by omega) (by omega) (h1 := by omega) (h2 := by omega) (h3 := by omega) (h4 := by omega)).1 hc; omega⟩⟩, by first | omega | (dsimp only; omega)⟩
      · have hp36 := of_decide_eq_false hg36
        refine PW_no rfl rfl rfl hg36 rfl ?_
        refine PW_no rfl rfl rfl hg36 rfl ?_
        refine PW_no rfl rfl rfl hg36 rfl ?_
        refine PW_no rfl rfl rfl hg36 rfl ?_
        refine PW_no rfl rfl rfl hg36 rfl ?_
        refine PW_no rfl rfl rfl hg36 rfl ?_
        refine PW_no rfl rfl rfl hg36 rfl ?_
        refine PW_no rfl rfl rfl hg36 rfl ?_
        refine PW_no rfl rfl rfl hg36 rfl ?_
        refine PW_q rfl rfl (fun wq hq => ev_pick_f rfl hg36 rfl) ?_
        refine PW_nil ?_
        refine thenE_n ?_
        refine W_cond_f rfl ?_
        refine W_skip ?_
        refine blockE_n ?_
        refine thenE_n ?_
        refine W_region ?_
        refine WL_q rfl (ev_move rfl) ?_
        refine WL_q rfl (ev_add rfl rfl (by omega)) ?_
        refine WL_q rfl (ev_assign rfl) ?_
        refine WL_nil ?_
        refine thenE_n ?_
        exact ⟨k + 1, (Subs.c rfl (Subs.c rfl (Subs.c rfl (Subs.c rfl (Subs.c rfl Subs.n))))), (Subs.c (lkI rfl (by omega)) Subs.n), ⟨hRL2, ⟨by omega, fun v hv hc => by rcases Nat.lt_succ_iff_lt_or_eq.1 hv with h | h; exact hJ2 v h hc; subst h; have h9 := (confAt_iff hXl hOl (by omega) (by omega) (h1 := by omega) (h2 := by omega) (h3 := by omega) (h4 := by omega)).1 hc; omega⟩⟩, by first | omega | (dsimp only; omega)⟩
    · have hp25 := of_decide_eq_false hg25
      refine W_exit ?_
      refine thenE_x ?_
      refine thenE_x ?_
      refine blockE_hit ?_
      refine blockE_n ?_
      refine thenE_n ?_
      refine W_region ?_
      refine WL_q rfl (ev_add rfl rfl (by omega)) ?_
      refine WL_q rfl (ev_move rfl) ?_
      refine WL_nil ?_
      refine thenE_n ?_
      exact ⟨i + 1, (Subs.c rfl (Subs.c rfl (Subs.c rfl Subs.n))), (Subs.c (lkI rfl (by omega)) Subs.n), ⟨hRL0, ⟨by omega, fun u v hu hc => by rcases Nat.lt_succ_iff_lt_or_eq.1 hu with h | h; exact hJ u v h hc; subst h; exact hJ2 v (by have := hc.2.1; omega) hc⟩⟩, by first | omega | (dsimp only; omega)⟩
  · have hp18 := of_decide_eq_false hg18
    refine W_exit ?_
    refine thenE_x ?_
    refine thenE_x ?_
    refine blockE_hit ?_
    refine thenE_n ?_
    refine W_seq ?_
    refine W_region ?_
    refine WL_q rfl (ev_assign rfl) ?_
    refine WL_q rfl (ev_assign rfl) ?_
    refine WL_q rfl (ev_assign rfl) ?_
    refine WL_nil ?_
    refine thenE_n ?_
    refine W_ret ?_
    refine ret3 rfl rfl rfl rfl ?_
    first | (exact ⟨_, _, _, rfl, .inl ⟨rfl, i, k, rfl, rfl, (confAt_iff hXl hOl (by omega) (by omega) (h1 := by omega) (h2 := by omega) (h3 := by omega) (h4 := by omega)).2 ⟨by omega, by omega⟩, fun u v hu => hJ u v hu, fun v hv => hJ2 v hv⟩, hE⟩) | (exact ⟨_, _, _, rfl, .inr ⟨rfl, rfl, rfl, fun u v hc => hJ u v (by have := hc.1; have := hc.2.1; omega) hc⟩, hE⟩)

set_option maxRecDepth 100000 in
theorem outputsOk_spec {loA hiA : Nat} (nA : NA) (A : Net) {loO hiO : Nat} (aO : Option Addr) (cO : Nat) (O : List Int) (w : World) (hA : IsNet loA hiA w nA A) (hhiA : hiA ≤ w.heap.size) (hnA : totN A ≤ 1048576) (hO : Ints loO hiO w aO cO O) (hhiO : hiO ≤ w.heap.size) (hnO : O.length ≤ 1048576) :
    Fn Try.prog 71 #[netV nA A, .slice aO O.length cO] w (fun v w' => ∃ b, v = VB b ∧ (b = true ↔ ((O.length : Int) = A.ends.length ∧ allR O 0 99 = true)) ∧ Ext w w') := by
  have hqA := totL_len A.ends
  have hmA : totL A.ends + A.ids.length + A.inputs.length ≤ 1048576 := hnA
  have hE := Ext.refl w
  refine Fn_of Try.func71 rfl rfl (by kernel_rfl) rfl ?_
  refine W_seq ?_
  refine W_region ?_
  refine WL_m rfl (ev_box rfl) ?_
  rintro _ w2 ⟨rfl, hN2⟩
  have hz2 := hN2.size
  replace hE := hE.trans hN2.ext
  replace hA := hA.ext hN2.ext
  replace hO := hO.ext hN2.ext
  have hB2 : Blk w2 _ _ [_, _, _] := hN2.blk
  refine WL_q rfl (ev_assign rfl) ?_
  refine WL_nil ?_
  refine thenE_n ?_
  refine W_seq ?_
  refine W_region ?_
  refine WL_q rfl (ev_move rfl) ?_
  refine WL_q rfl (ev_len Try.underlying23 rfl) ?_
  refine WL_q rfl (ev_fieldAddr fo41_0 rfl) ?_
  refine WL_q rfl (ev_load one39 rfl (hB2.cell rfl)) ?_
  refine WL_q rfl (ev_len Try.underlying39 rfl) ?_
  refine WL_q rfl (ev_eql rfl rfl) ?_
  refine WL_q rfl (ev_move rfl) ?_
  refine WL_splitv (t := 11) rfl (fun hg10 => ?_) (fun hg10 => ?_)
  · have hp10 := of_decide_eq_true hg10
    refine WL_qg rfl rfl hg10 rfl (ev_move rfl) ?_
    refine WL_mg rfl rfl hg10 rfl (ev_call rfl (allWithin_spec _ _ O _ _ _ hO (by omega))) ?_
    rintro _ w13 ⟨rfl, hE13⟩
    have hz13 := hE13.size
    replace hE := hE.trans hE13
    replace hA := hA.ext hE13
    replace hO := hO.ext hE13
    replace hB2 := hB2.ext hE13
    refine WL_q rfl (ev_pick_t rfl hg10 rfl) ?_
    refine WL_q rfl (ev_assign rfl) ?_
    refine WL_nil ?_
    refine thenE_n ?_
    refine W_ret ?_
    refine ret1 rfl rfl ?_
    first | (exact ⟨_, rfl, ⟨fun h => ⟨hp10, h⟩, fun h => h.2⟩, hE⟩) | (exact ⟨_, rfl, ffI fun h => hp10 h.1, hE⟩)
  · have hp10 := of_decide_eq_false hg10
    refine WL_no rfl rfl hg10 rfl ?_
    refine WL_no rfl rfl hg10 rfl ?_
    refine WL_q rfl (ev_pick_f rfl hg10 rfl) ?_
    refine WL_q rfl (ev_assign rfl) ?_
    refine WL_nil ?_
    refine thenE_n ?_
    refine W_ret ?_
    refine ret1 rfl rfl ?_
    first | (exact ⟨_, rfl, ⟨fun h => ⟨hp10, h⟩, fun h => h.2⟩, hE⟩) | (exact ⟨_, rfl, ffI fun h => hp10 h.1, hE⟩)

set_option maxRecDepth 100000 in
theorem taOuts_spec {loA hiA : Nat} (nA : NA) (A : Net) {loO hiO : Nat} (aO : Option Addr) (cO : Nat) (O : List Int) (w : World) (hA : IsNet loA hiA w nA A) (hhiA : hiA ≤ w.heap.size) (hnA : totN A ≤ 1048576) (hO : Ints loO hiO w aO cO O) (hhiO : hiO ≤ w.heap.size) (hnO : O.length ≤ 1048576) :
    Fn Try.prog 67 #[netV nA A, .slice aO O.length cO] w (fun v w' => ∃ b, v = VB b ∧ (b = true ↔ (NOk A ∧ ((O.length : Int) = A.ends.length ∧ allR O 0 99 = true))) ∧ Ext w w') := by
  have hqA := totL_len A.ends
  have hmA : totL A.ends + A.ids.length + A.inputs.length ≤ 1048576 := hnA
  have hE := Ext.refl w
  refine Fn_of Try.func67 rfl rfl (by kernel_rfl) rfl ?_
  refine W_seq ?_
  refine W_region ?_
  refine WL_m rfl (ev_box rfl) ?_
  rintro _ w2 ⟨rfl, hN2⟩
  have hz2 := hN2.size
  replace hE := hE.trans hN2.ext
  replace hA := hA.ext hN2.ext
  replace hO := hO.ext hN2.ext
  have hB2 : Blk w2 _ _ [_, _, _] := hN2.blk
  refine WL_q rfl (ev_assign rfl) ?_
  refine WL_nil ?_
  refine thenE_n ?_
  refine W_seq ?_
  refine W_region ?_
  refine WL_q rfl (ev_loads st41 sz41 rfl (cellsB hB2) rfl) ?_
  refine WL_m rfl (ev_call rfl (neGood_spec _ A _ hA (by omega) (by omega))) ?_
  rintro _ w6 ⟨b6, rfl, hb6, hE6⟩
  have hz6 := hE6.size
  replace hE := hE.trans hE6
  replace hA := hA.ext hE6
  replace hO := hO.ext hE6
  replace hB2 := hB2.ext hE6
  refine WL_q rfl (ev_move rfl) ?_
  refine WL_splitv (t := 7) rfl (fun hg6 => ?_) (fun hg6 => ?_)
  · have hp6 := hb6.1 hg6
    refine WL_qg rfl rfl hg6 rfl (ev_move rfl) ?_
    refine WL_qg rfl rfl hg6 rfl (ev_len Try.underlying23 rfl) ?_
    refine WL_qg rfl rfl hg6 rfl (ev_fieldAddr fo41_0 rfl) ?_
    refine WL_qg rfl rfl hg6 rfl (ev_load one39 rfl (hB2.cell rfl)) ?_
    refine WL_qg rfl rfl hg6 rfl (ev_len Try.underlying39 rfl) ?_
    refine WL_qg rfl rfl hg6 rfl (ev_eql rfl rfl) ?_
    refine WL_q rfl (ev_pick_t rfl hg6 rfl) ?_
    refine WL_q rfl (ev_move rfl) ?_
    refine WL_splitv (t := 15) rfl (fun hg13 => ?_) (fun hg13 => ?_)
    · have hp13 := of_decide_eq_true hg13
      refine WL_qg rfl rfl hg13 rfl (ev_move rfl) ?_
      refine WL_mg rfl rfl hg13 rfl (ev_call rfl (l1All_spec _ _ O _ _ _ hO (by omega))) ?_
      rintro _ w17 ⟨rfl, hE17⟩
      have hz17 := hE17.size
      replace hE := hE.trans hE17
      replace hA := hA.ext hE17
      replace hO := hO.ext hE17
      replace hB2 := hB2.ext hE17
      refine WL_q rfl (ev_pick_t rfl hg13 rfl) ?_
      refine WL_q rfl (ev_assign rfl) ?_
      refine WL_nil ?_
      refine thenE_n ?_
      refine W_ret ?_
      refine ret1 rfl rfl ?_
      first | (exact ⟨_, rfl, ⟨fun h => ⟨hp6, hp13, h⟩, fun h => h.2.2⟩, hE⟩) | (exact ⟨_, rfl, ffI fun h => hp6 h.1, hE⟩) | (exact ⟨_, rfl, ffI fun h => hp13 h.2.1, hE⟩)
    · have hp13 := of_decide_eq_false hg13
      refine WL_no rfl rfl hg13 rfl ?_
      refine WL_no rfl rfl hg13 rfl ?_
      refine WL_q rfl (ev_pick_f rfl hg13 rfl) ?_
      refine WL_q rfl (ev_assign rfl) ?_
      refine WL_nil ?_
      refine thenE_n ?_
      refine W_ret ?_
      refine ret1 rfl rfl ?_
      first | (exact ⟨_, rfl, ⟨fun h => ⟨hp6, hp13, h⟩, fun h => h.2.2⟩, hE⟩) | (exact ⟨_, rfl, ffI fun h => hp6 h.1, hE⟩) | (exact ⟨_, rfl, ffI fun h => hp13 h.2.1, hE⟩)
  · have hp6 := ttN hb6 hg6
    refine WL_no rfl rfl hg6 rfl ?_
    refine WL_no rfl rfl hg6 rfl ?_
    refine WL_no rfl rfl hg6 rfl ?_
    refine WL_no rfl rfl hg6 rfl ?_
    refine WL_no rfl rfl hg6 rfl ?_
    refine WL_no rfl rfl hg6 rfl ?_
    refine WL_q rfl (ev_pick_f rfl hg6 rfl) ?_
    refine WL_q rfl (ev_move rfl) ?_
    refine WL_no rfl rfl rfl rfl ?_
    refine WL_no rfl rfl rfl rfl ?_
    refine WL_q rfl (ev_pick_f rfl rfl rfl) ?_
    refine WL_q rfl (ev_assign rfl) ?_
    refine WL_nil ?_
    refine thenE_n ?_
    refine W_ret ?_
    refine ret1 rfl rfl ?_
    first | (exact ⟨_, rfl, ⟨fun h => ⟨hp6, hp13, h⟩, fun h => h.2.2⟩, hE⟩) | (exact ⟨_, rfl, ffI fun h => hp6 h.1, hE⟩) | (exact ⟨_, rfl, ffI fun h => hp13 h.2.1, hE⟩)

set_option maxRecDepth 100000 in
theorem viDepth_spec (t : Int) (w : World) :
    Fn Try.prog 68 #[VI t] w (fun v w' => v = VB (inR t 0 80) ∧ w = w') := by
  refine Fn_of Try.func68 rfl rfl (by kernel_rfl) rfl ?_
  refine W_seq ?_
  refine W_region ?_
  refine WL_q rfl (ev_assign rfl) ?_
  refine WL_nil ?_
  refine thenE_n ?_
  refine W_seq ?_
  refine W_region ?_
  refine WL_q rfl (ev_move rfl) ?_
  refine WL_m rfl (ev_call rfl (l1In_spec _ _ _ _)) ?_
  rintro _ _ ⟨rfl, rfl⟩
  refine WL_q rfl (ev_assign rfl) ?_
  refine WL_nil ?_
  refine thenE_n ?_
  refine W_ret ?_
  refine ret1 rfl rfl ?_
  exact ⟨rfl, rfl⟩

set_option maxRecDepth 100000 in
theorem isDepth_spec (t : Int) (w : World) :
    Fn Try.prog 70 #[VI t] w (fun v w' => v = VB (inR t 0 80) ∧ w = w') := by
  refine Fn_of Try.func70 rfl rfl (by kernel_rfl) rfl ?_
  refine W_seq ?_
  refine W_region ?_
  refine WL_q rfl (ev_assign rfl) ?_
  refine WL_nil ?_
  refine thenE_n ?_
  refine W_seq ?_
  refine W_region ?_
  refine WL_q rfl (ev_move rfl) ?_
  refine WL_m rfl (ev_call rfl (within_spec _ _ _ _)) ?_
  rintro _ _ ⟨rfl, rfl⟩
  refine WL_q rfl (ev_assign rfl) ?_
  refine WL_nil ?_
  refine thenE_n ?_
  refine W_ret ?_
  refine ret1 rfl rfl ?_
  exact ⟨rfl, rfl⟩

def CRV (V : Prop) (X O : List Int) (r s : Int) (b : Bool) : Prop := (V ∧ CR X O r s b) ∨ (¬ V ∧ r = 0 ∧ s = 0 ∧ b = false)
theorem CRV.det {V : Prop} {X O : List Int} {r s r' s' : Int} {b b' : Bool} (h : CRV V X O r s b) (k : CRV V X O r' s' b') : r = r' ∧ s = s' ∧ b = b' := by
  rcases h with ⟨h1, h2⟩ | ⟨h1, h2, h3, h4⟩ <;> rcases k with ⟨k1, k2⟩ | ⟨k1, k2, k3, k4⟩
  · exact h2.det k2
  · exact absurd h1 k1
  · exact absurd k1 h1
  · exact ⟨by rw [h2, k2], by rw [h3, k3], by rw [h4, k4]⟩
theorem CRV.det1 {V : Prop} {X O : List Int} {r s r' s' : Int} {b b' : Bool} (h : CRV V X O r s b) (k : CRV V X O r' s' b') : r = r' := (h.det k).1
theorem CRV.det2 {V : Prop} {X O : List Int} {r s r' s' : Int} {b b' : Bool} (h : CRV V X O r s b) (k : CRV V X O r' s' b') : s = s' := (h.det k).2.1
theorem CRV.det3 {V : Prop} {X O : List Int} {r s r' s' : Int} {b b' : Bool} (h : CRV V X O r s b) (k : CRV V X O r' s' b') : b = b' := (h.det k).2.2

set_option maxRecDepth 100000 in
theorem sConflictOf_spec {loA hiA : Nat} (nA : NA) (A : Net) (t : Int) {loO hiO : Nat} (aO : Option Addr) (cO : Nat) (O : List Int) (w : World) (hA : IsNet loA hiA w nA A) (hhiA : hiA ≤ w.heap.size) (hnA : totN A ≤ 1048576) (hO : Ints loO hiO w aO cO O) (hhiO : hiO ≤ w.heap.size) (hnO : O.length ≤ 1048576) :
    Fn Try.prog 27 #[netV nA A, VI t, .slice aO O.length cO] w (fun r w' => ∃ x y b, r = .tuple #[VI x, VI y, VB b] ∧ CRV (NOk A ∧ (0 ≤ t ∧ t ≤ 80) ∧ ((O.length : Int) = A.ends.length ∧ allR O 0 99 = true)) (vw A t.toNat) O x y b ∧ Ext w w') := by
  have hqA := totL_len A.ends
  have hmA : totL A.ends + A.ids.length + A.inputs.length ≤ 1048576 := hnA
  have hE := Ext.refl w
  refine Fn_of Try.func27 rfl rfl (by kernel_rfl) rfl ?_
  refine W_seq ?_
  refine W_region ?_
  refine WL_m rfl (ev_box rfl) ?_
  rintro _ w3 ⟨rfl, hN3⟩
  have hz3 := hN3.size
  replace hE := hE.trans hN3.ext
  replace hA := hA.ext hN3.ext
  replace hO := hO.ext hN3.ext
  have hB3 : Blk w3 _ _ [_, _, _] := hN3.blk
  refine WL_q rfl (ev_assign rfl) ?_
  refine WL_q rfl (ev_assign rfl) ?_
  refine WL_q rfl (ev_assign rfl) ?_
  refine WL_nil ?_
  refine thenE_n ?_
  refine W_seq ?_
  refine W_seq ?_
  refine W_region ?_
  refine WL_q rfl (ev_loads st41 sz41 rfl (cellsB hB3) rfl) ?_
  refine WL_q rfl (ev_move rfl) ?_
  refine WL_m rfl (ev_call rfl (taOuts_spec _ A _ _ O _ hA (by omega) (by omega) hO (by omega) (by omega))) ?_
  rintro _ w11 ⟨b11, rfl, hb11, hE11⟩
  have hz11 := hE11.size
  replace hE := hE.trans hE11
  replace hA := hA.ext hE11
  replace hO := hO.ext hE11
  replace hB3 := hB3.ext hE11
  refine WL_q rfl (ev_not rfl) ?_
  refine WL_q rfl (ev_move rfl) ?_
  refine WL_splitv (t := 13) rfl (fun hg12 => ?_) (fun hg12 => ?_)
  · have hg11 := not_true hg12
    have hp11 := ttN hb11 hg11
    refine WL_no rfl rfl hg12 rfl ?_
    refine WL_no rfl rfl hg12 rfl ?_
    refine WL_no rfl rfl hg12 rfl ?_
    refine WL_q rfl (ev_pick_t rfl hg12 rfl) ?_
    refine WL_nil ?_
    refine thenE_n ?_
    refine W_cond_t rfl ?_
    refine W_seq ?_
    refine W_region ?_
    refine WL_q rfl (ev_assign rfl) ?_
    refine WL_q rfl (ev_assign rfl) ?_
    refine WL_q rfl (ev_assign rfl) ?_
    refine WL_nil ?_
    refine thenE_n ?_
    refine W_ret ?_
    refine thenE_r ?_
    refine ret3 rfl rfl rfl rfl ?_
    first | (exact ⟨_, _, _, rfl, .inr ⟨fun h => hp11 ⟨h.1, h.2.2⟩, rfl, rfl, rfl⟩, hE⟩) | (exact ⟨_, _, _, rfl, .inr ⟨fun h => hp15 h.2.1, rfl, rfl, rfl⟩, hE⟩) | (exact ⟨_, _, _, rfl, .inl ⟨⟨hp11.1, hp15, hp11.2⟩, hc21⟩, hE⟩)
  · have hg11 := not_false hg12
    have hp11 := hb11.1 hg11
    refine WL_qg rfl rfl hg12 rfl (ev_move rfl) ?_
    refine WL_mg rfl rfl hg12 rfl (ev_call rfl (viDepth_spec _ _)) ?_
    rintro _ _ ⟨rfl, rfl⟩
    refine WL_qg rfl rfl hg12 rfl (ev_not rfl) ?_
    refine WL_q rfl (ev_pick_f rfl hg12 rfl) ?_
    refine WL_nil ?_
    refine thenE_n ?_
    refine W_cond rfl (fun hg16 => ?_) (fun hg16 => ?_)
    · have hg15 := not_true hg16
      have hp15 := inR_false.1 hg15
      refine W_seq ?_
      refine W_region ?_
      refine WL_q rfl (ev_assign rfl) ?_
      refine WL_q rfl (ev_assign rfl) ?_
      refine WL_q rfl (ev_assign rfl) ?_
      refine WL_nil ?_
      refine thenE_n ?_
      refine W_ret ?_
      refine thenE_r ?_
      refine ret3 rfl rfl rfl rfl ?_
      first | (exact ⟨_, _, _, rfl, .inr ⟨fun h => hp11 ⟨h.1, h.2.2⟩, rfl, rfl, rfl⟩, hE⟩) | (exact ⟨_, _, _, rfl, .inr ⟨fun h => hp15 h.2.1, rfl, rfl, rfl⟩, hE⟩) | (exact ⟨_, _, _, rfl, .inl ⟨⟨hp11.1, hp15, hp11.2⟩, hc21⟩, hE⟩)
    · have hg15 := not_false hg16
      have hp15 := inR_true.1 hg15
      refine W_skip ?_
      refine thenE_n ?_
      refine W_seq ?_
      refine W_region ?_
      have hv := hp11.1.vok
      have hol := hp11.2.1
      refine WL_q rfl (ev_loads st41 sz41 rfl (cellsB hB3) rfl) ?_
      refine WL_q rfl (ev_move rfl) ?_
      refine WL_q rfl (ev_move rfl) ?_
      refine WL_m rfl (ev_call rfl (taConflict_spec _ A _ _ _ O _ hA (by omega) (by omega) hO (by omega) (by omega) (by assumption) (by omega) (by omega))) ?_
      rintro _ w21 ⟨x21, y21, b21, rfl, hc21, hE21⟩
      have hz21 := hE21.size
      replace hE := hE.trans hE21
      replace hA := hA.ext hE21
      replace hO := hO.ext hE21
      replace hB3 := hB3.ext hE21
      refine WL_q rfl (ev_extract rfl rfl) ?_
      refine WL_q rfl (ev_extract rfl rfl) ?_
      refine WL_q rfl (ev_extract rfl rfl) ?_
      refine WL_q rfl (ev_assign rfl) ?_
      refine WL_q rfl (ev_assign rfl) ?_
      refine WL_q rfl (ev_assign rfl) ?_
      refine WL_nil ?_
      refine thenE_n ?_
      refine W_ret ?_
      refine ret3 rfl rfl rfl rfl ?_
      first | (exact ⟨_, _, _, rfl, .inr ⟨fun h => hp11 ⟨h.1, h.2.2⟩, rfl, rfl, rfl⟩, hE⟩) | (exact ⟨_, _, _, rfl, .inr ⟨fun h => hp15 h.2.1, rfl, rfl, rfl⟩, hE⟩) | (exact ⟨_, _, _, rfl, .inl ⟨⟨hp11.1, hp15, hp11.2⟩, hc21⟩, hE⟩)

set_option maxRecDepth 100000 in
theorem ConflictOf_spec {loA hiA : Nat} (nA : NA) (A : Net) (t : Int) {loO hiO : Nat} (aO : Option Addr) (cO : Nat) (O : List Int) (w : World) (hA : IsNet loA hiA w nA A) (hhiA : hiA ≤ w.heap.size) (hnA : totN A ≤ 1048576) (hO : Ints loO hiO w aO cO O) (hhiO : hiO ≤ w.heap.size) (hnO : O.length ≤ 1048576) :
    Fn Try.prog 28 #[netV nA A, VI t, .slice aO O.length cO] w (fun r w' => ∃ x y b, r = .tuple #[VI x, VI y, VB b] ∧ CRV (NOk A ∧ (0 ≤ t ∧ t ≤ 80) ∧ ((O.length : Int) = A.ends.length ∧ allR O 0 99 = true)) (vw A t.toNat) O x y b ∧ Ext w w') := by
  have hqA := totL_len A.ends
  have hmA : totL A.ends + A.ids.length + A.inputs.length ≤ 1048576 := hnA
  have hE := Ext.refl w
  refine Fn_of Try.func28 rfl rfl (by kernel_rfl) rfl ?_
  refine W_seq ?_
  refine W_region ?_
  refine WL_m rfl (ev_box rfl) ?_
  rintro _ w3 ⟨rfl, hN3⟩
  have hz3 := hN3.size
  replace hE := hE.trans hN3.ext
  replace hA := hA.ext hN3.ext
  replace hO := hO.ext hN3.ext
  have hB3 : Blk w3 _ _ [_, _, _] := hN3.blk
  refine WL_q rfl (ev_assign rfl) ?_
  refine WL_q rfl (ev_assign rfl) ?_
  refine WL_q rfl (ev_assign rfl) ?_
  refine WL_nil ?_
  refine thenE_n ?_
  refine W_seq ?_
  refine W_seq ?_
  refine W_region ?_
  refine WL_q rfl (ev_loads st41 sz41 rfl (cellsB hB3) rfl) ?_
  refine WL_m rfl (ev_call rfl (IsNetwork_spec _ A _ hA (by omega) (by omega))) ?_
  rintro _ w10 ⟨b10, rfl, hb10, hE10⟩
  have hz10 := hE10.size
  replace hE := hE.trans hE10
  replace hA := hA.ext hE10
  replace hO := hO.ext hE10
  replace hB3 := hB3.ext hE10
  refine WL_q rfl (ev_not rfl) ?_
  refine WL_q rfl (ev_move rfl) ?_
  refine WL_splitv (t := 12) rfl (fun hg11 => ?_) (fun hg11 => ?_)
  · have hg10 := not_true hg11
    have hp10 := ttN hb10 hg10
    refine WL_no rfl rfl hg11 rfl ?_
    refine WL_no rfl rfl hg11 rfl ?_
    refine WL_no rfl rfl hg11 rfl ?_
    refine WL_q rfl (ev_pick_t rfl hg11 rfl) ?_
    refine WL_q rfl (ev_move rfl) ?_
    refine WL_no rfl rfl rfl rfl ?_
    refine WL_no rfl rfl rfl rfl ?_
    refine WL_no rfl rfl rfl rfl ?_
    refine WL_no rfl rfl rfl rfl ?_
    refine WL_q rfl (ev_pick_t rfl rfl rfl) ?_
    refine WL_nil ?_
    refine thenE_n ?_
    refine W_cond_t rfl ?_
    refine W_seq ?_
    refine W_region ?_
    refine WL_q rfl (ev_assign rfl) ?_
    refine WL_q rfl (ev_assign rfl) ?_
    refine WL_q rfl (ev_assign rfl) ?_
    refine WL_nil ?_
    refine thenE_n ?_
    refine W_ret ?_
    refine thenE_r ?_
    refine ret3 rfl rfl rfl rfl ?_
    first | (exact ⟨_, _, _, rfl, .inr ⟨fun h => hp10 h.1, rfl, rfl, rfl⟩, hE⟩) | (exact ⟨_, _, _, rfl, .inr ⟨fun h => hp14 h.2.1, rfl, rfl, rfl⟩, hE⟩) | (exact ⟨_, _, _, rfl, .inr ⟨fun h => hp20 h.2.2, rfl, rfl, rfl⟩, hE⟩) | (exact ⟨_, _, _, rfl, .inl ⟨⟨hp10, hp14, hp20⟩, hc27⟩, hE⟩)
  · have hg10 := not_false hg11
    have hp10 := hb10.1 hg10
    refine WL_qg rfl rfl hg11 rfl (ev_move rfl) ?_
    refine WL_mg rfl rfl hg11 rfl (ev_call rfl (isDepth_spec _ _)) ?_
    rintro _ _ ⟨rfl, rfl⟩
    refine WL_qg rfl rfl hg11 rfl (ev_not rfl) ?_
    refine WL_q rfl (ev_pick_f rfl hg11 rfl) ?_
    refine WL_q rfl (ev_move rfl) ?_
    refine WL_splitv (t := 17) rfl (fun hg15 => ?_) (fun hg15 => ?_)
    · have hg14 := not_true hg15
      have hp14 := inR_false.1 hg14
      refine WL_no rfl rfl hg15 rfl ?_
      refine WL_no rfl rfl hg15 rfl ?_
      refine WL_no rfl rfl hg15 rfl ?_
      refine WL_no rfl rfl hg15 rfl ?_
      refine WL_q rfl (ev_pick_t rfl hg15 rfl) ?_
      refine WL_nil ?_
      refine thenE_n ?_
      refine W_cond_t rfl ?_
      refine W_seq ?_
      refine W_region ?_
      refine WL_q rfl (ev_assign rfl) ?_
      refine WL_q rfl (ev_assign rfl) ?_
      refine WL_q rfl (ev_assign rfl) ?_
      refine WL_nil ?_
      refine thenE_n ?_
      refine W_ret ?_
      refine thenE_r ?_
      refine ret3 rfl rfl rfl rfl ?_
      first | (exact ⟨_, _, _, rfl, .inr ⟨fun h => hp10 h.1, rfl, rfl, rfl⟩, hE⟩) | (exact ⟨_, _, _, rfl, .inr ⟨fun h => hp14 h.2.1, rfl, rfl, rfl⟩, hE⟩) | (exact ⟨_, _, _, rfl, .inr ⟨fun h => hp20 h.2.2, rfl, rfl, rfl⟩, hE⟩) | (exact ⟨_, _, _, rfl, .inl ⟨⟨hp10, hp14, hp20⟩, hc27⟩, hE⟩)
    · have hg14 := not_false hg15
      have hp14 := inR_true.1 hg14
      refine WL_qg rfl rfl hg15 rfl (ev_loads st41 sz41 rfl (cellsB hB3) rfl) ?_
      refine WL_qg rfl rfl hg15 rfl (ev_move rfl) ?_
      refine WL_mg rfl rfl hg15 rfl (ev_call rfl (outputsOk_spec _ A _ _ O _ hA (by omega) (by omega) hO (by omega) (by omega))) ?_
      rintro _ w20 ⟨b20, rfl, hb20, hE20⟩
      have hz20 := hE20.size
      replace hE := hE.trans hE20
      replace hA := hA.ext hE20
      replace hO := hO.ext hE20
      replace hB3 := hB3.ext hE20
      refine WL_qg rfl rfl hg15 rfl (ev_not rfl) ?_
      refine WL_q rfl (ev_pick_f rfl hg15 rfl) ?_
      refine WL_nil ?_
      refine thenE_n ?_
      refine W_cond rfl (fun hg21 => ?_) (fun hg21 => ?_)
      · have hg20 := not_true hg21
        have hp20 := ttN hb20 hg20
        refine W_seq ?_
        refine W_region ?_
        refine WL_q rfl (ev_assign rfl) ?_
        refine WL_q rfl (ev_assign rfl) ?_
        refine WL_q rfl (ev_assign rfl) ?_
        refine WL_nil ?_
        refine thenE_n ?_
        refine W_ret ?_
        refine thenE_r ?_
        refine ret3 rfl rfl rfl rfl ?_
        first | (exact ⟨_, _, _, rfl, .inr ⟨fun h => hp10 h.1, rfl, rfl, rfl⟩, hE⟩) | (exact ⟨_, _, _, rfl, .inr ⟨fun h => hp14 h.2.1, rfl, rfl, rfl⟩, hE⟩) | (exact ⟨_, _, _, rfl, .inr ⟨fun h => hp20 h.2.2, rfl, rfl, rfl⟩, hE⟩) | (exact ⟨_, _, _, rfl, .inl ⟨⟨hp10, hp14, hp20⟩, hc27⟩, hE⟩)
      · have hg20 := not_false hg21
        have hp20 := hb20.1 hg20
        refine W_skip ?_
        refine thenE_n ?_
        refine W_seq ?_
        refine W_region ?_
        have hv := hp10.vok
        have hol := hp20.1
        have hoN : O.length = A.ends.length := by omega
        refine WL_q rfl (ev_loads st41 sz41 rfl (cellsB hB3) rfl) ?_
        refine WL_q rfl (ev_move rfl) ?_
        refine WL_m rfl (ev_call rfl (classesAt_spec _ A _ _ hA (by omega) (by omega) (by assumption) (by omega))) ?_
        rintro _ w25 ⟨a25, c25, rfl, hO25, hE25⟩
        have hz25 := hE25.size
        replace hE := hE.trans hE25
        replace hA := hA.ext hE25
        replace hO := hO.ext hE25
        replace hB3 := hB3.ext hE25
        refine WL_q rfl (ev_move rfl) ?_
        refine WL_m rfl (ev_call rfl (conflictIn_len _ _ _ _ (vw A t.toNat) O _ (own_i hO25) hO (vw_len A _) hoN (by omega))) ?_
        rintro _ w27 ⟨x27, y27, b27, rfl, hc27, hE27⟩
        have hz27 := hE27.size
        replace hE := hE.trans hE27
        replace hA := hA.ext hE27
        replace hO := hO.ext hE27
        replace hB3 := hB3.ext hE27
        replace hO25 := hO25.ext hE27
        refine WL_q rfl (ev_extract rfl rfl) ?_
        refine WL_q rfl (ev_extract rfl rfl) ?_
        refine WL_q rfl (ev_extract rfl rfl) ?_
        refine WL_q rfl (ev_assign rfl) ?_
        refine WL_q rfl (ev_assign rfl) ?_
        refine WL_q rfl (ev_assign rfl) ?_
        refine WL_nil ?_
        refine thenE_n ?_
        refine W_ret ?_
        refine ret3 rfl rfl rfl rfl ?_
        first | (exact ⟨_, _, _, rfl, .inr ⟨fun h => hp10 h.1, rfl, rfl, rfl⟩, hE⟩) | (exact ⟨_, _, _, rfl, .inr ⟨fun h => hp14 h.2.1, rfl, rfl, rfl⟩, hE⟩) | (exact ⟨_, _, _, rfl, .inr ⟨fun h => hp20 h.2.2, rfl, rfl, rfl⟩, hE⟩) | (exact ⟨_, _, _, rfl, .inl ⟨⟨hp10, hp14, hp20⟩, hc27⟩, hE⟩)

set_option maxRecDepth 100000 in
theorem law_ConflictOf (nA : NA) (A : Net) (t : Int) (aO : Option Addr) (cO : Nat) (O : List Int) (w : World) (hA : IsNet 0 w.heap.size w nA A) (hsA : SmN A) (hO : Ints 0 w.heap.size w aO cO O) (hit : I64 t) :
    Fn Try.prog 5 #[netV nA A, VI t, .slice aO O.length cO] w (fun v w' => v = VB true ∧ Ext w w') := by
  have hE := Ext.refl w
  refine Fn_of Try.func5 rfl rfl (by kernel_rfl) rfl ?_
  refine W_seq ?_
  refine W_region ?_
  refine WL_m rfl (ev_box rfl) ?_
  rintro _ w3 ⟨rfl, hN3⟩
  have hz3 := hN3.size
  replace hE := hE.trans hN3.ext
  replace hA := hA.ext hN3.ext
  replace hO := hO.ext hN3.ext
  have hB3 : Blk w3 _ _ [_, _, _] := hN3.blk
  refine WL_q rfl (ev_assign rfl) ?_
  refine WL_nil ?_
  refine thenE_n ?_
  refine W_seq ?_
  refine W_seq ?_
  refine W_region ?_
  refine WL_q rfl (ev_move rfl) ?_
  refine WL_q rfl (ev_len Try.underlying23 rfl) ?_
  refine WL_q rfl (ev_gtr rfl rfl) ?_
  refine WL_nil ?_
  refine thenE_n ?_
  refine W_cond rfl (fun hg18 => ?_) (fun hg18 => ?_)
  · have hp18 := of_decide_eq_true hg18
    refine W_seq ?_
    refine W_region ?_
    refine WL_q rfl (ev_assign rfl) ?_
    refine WL_nil ?_
    refine thenE_n ?_
    refine W_ret ?_
    refine thenE_r ?_
    refine ret1 rfl rfl ?_
    first | (exact ⟨rfl, hE⟩) | (exact (tfX hg18).elim) | (exact (decF hg18).elim) | (exfalso; omega)
  · have hp18 := of_decide_eq_false hg18
    refine W_skip ?_
    refine thenE_n ?_
    refine W_seq ?_
    refine W_region ?_
    refine WL_q rfl (ev_assign rfl) ?_
    refine WL_nil ?_
    refine thenE_n ?_
    refine W_seq ?_
    refine W_region ?_
    refine WL_q rfl (ev_loads st35 sz35 rfl (cellsB hB3) rfl) ?_
    refine WL_q rfl (ev_move rfl) ?_
    refine WL_m rfl (ev_call rfl (szNetwork_spec _ A _ _ hA (by omega) hsA)) ?_
    rintro _ w21 ⟨r21, rfl, hE21, hr21⟩
    have hz21 := hE21.size
    replace hE := hE.trans hE21
    replace hA := hA.ext hE21
    replace hO := hO.ext hE21
    replace hB3 := hB3.ext hE21
    refine WL_q rfl (ev_assign rfl) ?_
    refine WL_nil ?_
    refine thenE_n ?_
    refine W_seq ?_
    refine W_seq ?_
    refine W_region ?_
    refine WL_q rfl (ev_move rfl) ?_
    refine WL_q rfl (ev_lss rfl rfl) ?_
    refine WL_nil ?_
    refine thenE_n ?_
    refine W_cond rfl (fun hg23 => ?_) (fun hg23 => ?_)
    · have hp23 := of_decide_eq_true hg23
      refine W_seq ?_
      refine W_region ?_
      refine WL_q rfl (ev_assign rfl) ?_
      refine WL_nil ?_
      refine thenE_n ?_
      refine W_ret ?_
      refine thenE_r ?_
      refine ret1 rfl rfl ?_
      first | (exact ⟨rfl, hE⟩) | (exact (tfX hg23).elim) | (exact (decF hg23).elim) | (exfalso; omega)
    · have hp23 := of_decide_eq_false hg23
      refine W_skip ?_
      refine thenE_n ?_
      refine W_seq ?_
      refine W_region ?_
      refine WL_q rfl (ev_loads st35 sz35 rfl (cellsB hB3) rfl) ?_
      refine WL_m rfl (ev_call rfl (toNetwork_spec _ A _ hA (by omega) (by omega))) ?_
      rintro _ w26 ⟨h26, rfl, hF26, hE26⟩
      have hz26 := hE26.size
      replace hE := hE.trans hE26
      replace hA := hA.ext hE26
      replace hO := hO.ext hE26
      replace hB3 := hB3.ext hE26
      have hN26 := hF26.is
      refine WL_q rfl (ev_move rfl) ?_
      refine WL_q rfl (ev_move rfl) ?_
      refine WL_m rfl (ev_call rfl (toIntS_spec _ _ O _ hO (by omega) (by omega))) ?_
      rintro _ w29 ⟨a29, rfl, hF29, hE29⟩
      have hz29 := hE29.size
      replace hE := hE.trans hE29
      replace hA := hA.ext hE29
      replace hO := hO.ext hE29
      replace hB3 := hB3.ext hE29
      replace hF26 := hF26.ext hE29
      replace hN26 := hN26.ext hE29
      have hI29 := hF29.is
      refine WL_m rfl (ev_call rfl (sConflictOf_spec _ A _ _ _ O _ hN26 (by omega) (by omega) hI29 (by omega) (by omega))) ?_
      rintro _ w30 ⟨x30, y30, b30, rfl, hr30, hE30⟩
      have hz30 := hE30.size
      replace hE := hE.trans hE30
      replace hA := hA.ext hE30
      replace hO := hO.ext hE30
      replace hB3 := hB3.ext hE30
      replace hF26 := hF26.ext hE30
      replace hN26 := hN26.ext hE30
      replace hF29 := hF29.ext hE30
      replace hI29 := hI29.ext hE30
      refine WL_q rfl (ev_move rfl) ?_
      refine WL_q rfl (ev_extract rfl rfl) ?_
      refine WL_q rfl (ev_extract rfl rfl) ?_
      refine WL_q rfl (ev_extract rfl rfl) ?_
      refine WL_q rfl (ev_assign rfl) ?_
      refine WL_q rfl (ev_assign rfl) ?_
      refine WL_q rfl (ev_assign rfl) ?_
      refine WL_nil ?_
      refine thenE_n ?_
      refine W_seq ?_
      refine W_region ?_
      refine WL_q rfl (ev_loads st35 sz35 rfl (cellsB hB3) rfl) ?_
      refine WL_m rfl (ev_call rfl (toNetwork_spec _ A _ hA (by omega) (by omega))) ?_
      rintro _ w35 ⟨h35, rfl, hF35, hE35⟩
      have hz35 := hE35.size
      replace hE := hE.trans hE35
      replace hA := hA.ext hE35
      replace hO := hO.ext hE35
      replace hB3 := hB3.ext hE35
      replace hF26 := hF26.ext hE35
      replace hN26 := hN26.ext hE35
      replace hF29 := hF29.ext hE35
      replace hI29 := hI29.ext hE35
      have hN35 := hF35.is
      refine WL_m rfl (ev_alloc zr41) ?_
      rintro _ w11 ⟨rfl, hN11⟩
      have hz11 := hN11.size
      replace hE := hE.trans hN11.ext
      replace hA := hA.ext hN11.ext
      replace hO := hO.ext hN11.ext
      replace hB3 := hB3.ext hN11.ext
      replace hF26 := hF26.ext hN11.ext
      replace hN26 := hN26.ext hN11.ext
      replace hF29 := hF29.ext hN11.ext
      replace hI29 := hI29.ext hN11.ext
      replace hF35 := hF35.ext hN11.ext
      replace hN35 := hN35.ext hN11.ext
      have hB11 : Blk w11 _ _ [_, _, _] := hN11.blk
      refine WL_s (ev_stores sz41 rfl rfl rfl (by simp [Value.oneCell']) hB11 (by simp)) ?_
      rintro _ w8_3 hS8_3
      have hz8_3 := hS8_3.size
      replace hE := hE.sto hS8_3 (by omega)
      replace hA := hA.sto hS8_3 (by omega)
      replace hO := hO.sto hS8_3 (by omega)
      replace hB3 := hB3.sto hS8_3 (by omega)
      replace hF26 := hF26.sto hS8_3 (by omega)
      replace hN26 := hN26.sto hS8_3 (by omega)
      replace hF29 := hF29.sto hS8_3 (by omega)
      replace hI29 := hI29.sto hS8_3 (by omega)
      replace hF35 := hF35.sto hS8_3 (by omega)
      replace hN35 := hN35.sto hS8_3 (by omega)
      replace hB11 : Blk w8_3 _ _ [_, _, _] := hS8_3.blk
      refine WL_nil ?_
      refine thenE_n ?_
      refine W_seq ?_
      refine W_region ?_
      refine WL_q rfl (ev_move rfl) ?_
      refine WL_m rfl (ev_call rfl (toIntS_spec _ _ O _ hO (by omega) (by omega))) ?_
      rintro _ w37 ⟨a37, rfl, hF37, hE37⟩
      have hz37 := hE37.size
      replace hE := hE.trans hE37
      replace hA := hA.ext hE37
      replace hO := hO.ext hE37
      replace hB3 := hB3.ext hE37
      replace hF26 := hF26.ext hE37
      replace hN26 := hN26.ext hE37
      replace hF29 := hF29.ext hE37
      replace hI29 := hI29.ext hE37
      replace hF35 := hF35.ext hE37
      replace hN35 := hN35.ext hE37
      replace hB11 := hB11.ext hE37
      have hI37 := hF37.is
      refine WL_q rfl (ev_assign rfl) ?_
      refine WL_nil ?_
      refine thenE_n ?_
      refine W_seq ?_
      refine W_region ?_
      refine WL_q rfl (ev_loads st41 sz41 rfl (cellsB hB11) rfl) ?_
      refine WL_q rfl (ev_move rfl) ?_
      refine WL_q rfl (ev_move rfl) ?_
      refine WL_m rfl (ev_call rfl (ConflictOf_spec _ A _ _ _ O _ hN35 (by omega) (by omega) hI37 (by omega) (by omega))) ?_
      rintro _ w42 ⟨x42, y42, b42, rfl, hr42, hE42⟩
      have hz42 := hE42.size
      replace hE := hE.trans hE42
      replace hA := hA.ext hE42
      replace hO := hO.ext hE42
      replace hB3 := hB3.ext hE42
      replace hF26 := hF26.ext hE42
      replace hN26 := hN26.ext hE42
      replace hF29 := hF29.ext hE42
      replace hI29 := hI29.ext hE42
      replace hF35 := hF35.ext hE42
      replace hN35 := hN35.ext hE42
      replace hB11 := hB11.ext hE42
      replace hF37 := hF37.ext hE42
      replace hI37 := hI37.ext hE42
      refine WL_q rfl (ev_move rfl) ?_
      refine WL_q rfl (ev_extract rfl rfl) ?_
      refine WL_q rfl (ev_extract rfl rfl) ?_
      refine WL_q rfl (ev_extract rfl rfl) ?_
      refine WL_q rfl (ev_assign rfl) ?_
      refine WL_q rfl (ev_assign rfl) ?_
      refine WL_q rfl (ev_assign rfl) ?_
      refine WL_nil ?_
      refine thenE_n ?_
      refine W_seq ?_
      refine W_seq ?_
      refine W_region ?_
      refine WL_q rfl (ev_move rfl) ?_
      refine WL_q rfl (ev_move rfl) ?_
      refine WL_q rfl (ev_neq rfl rfl) ?_
      refine WL_q rfl (ev_move rfl) ?_
      refine WL_splitv (t := 49) rfl (fun hg48 => ?_) (fun hg48 => ?_)
      · have hp48 := of_decide_eq_true hg48
        refine WL_no rfl rfl hg48 rfl ?_
        refine WL_no rfl rfl hg48 rfl ?_
        refine WL_no rfl rfl hg48 rfl ?_
        refine WL_q rfl (ev_pick_t rfl hg48 rfl) ?_
        refine WL_q rfl (ev_move rfl) ?_
        refine WL_no rfl rfl rfl rfl ?_
        refine WL_no rfl rfl rfl rfl ?_
        refine WL_no rfl rfl rfl rfl ?_
        refine WL_q rfl (ev_pick_t rfl rfl rfl) ?_
        refine WL_nil ?_
        refine thenE_n ?_
        refine W_cond_t rfl ?_
        refine W_seq ?_
        refine W_region ?_
        refine WL_q rfl (ev_assign rfl) ?_
        refine WL_nil ?_
        refine thenE_n ?_
        refine W_ret ?_
        refine thenE_r ?_
        refine ret1 rfl rfl ?_
        first | (exact ⟨rfl, hE⟩) | (exact (bneE hg48 (hr42.det1 hr30)).elim) | (exact absurd (hr42.det1 hr30) hp48) | (exact absurd (hr42.det1 hr30) (of_decide_eq_false hg48)) | (exact (bneE hg48 (hr42.det2 hr30)).elim) | (exact absurd (hr42.det2 hr30) hp48) | (exact absurd (hr42.det2 hr30) (of_decide_eq_false hg48)) | (exact (bneE hg48 (hr42.det3 hr30)).elim) | (exact absurd (hr42.det3 hr30) hp48) | (exact absurd (hr42.det3 hr30) (of_decide_eq_false hg48)) | (exact (tfX hg48).elim) | (exact (decF hg48).elim) | (exfalso; omega)
      · have hp48 := of_decide_eq_false hg48
        refine WL_qg rfl rfl hg48 rfl (ev_move rfl) ?_
        refine WL_qg rfl rfl hg48 rfl (ev_move rfl) ?_
        refine WL_qg rfl rfl hg48 rfl (ev_neq rfl rfl) ?_
        refine WL_q rfl (ev_pick_f rfl hg48 rfl) ?_
        refine WL_q rfl (ev_move rfl) ?_
        refine WL_splitv (t := 54) rfl (fun hg52 => ?_) (fun hg52 => ?_)
        · have hp52 := of_decide_eq_true hg52
          refine WL_no rfl rfl hg52 rfl ?_
          refine WL_no rfl rfl hg52 rfl ?_
          refine WL_no rfl rfl hg52 rfl ?_
          refine WL_q rfl (ev_pick_t rfl hg52 rfl) ?_
          refine WL_nil ?_
          refine thenE_n ?_
          refine W_cond_t rfl ?_
          refine W_seq ?_
          refine W_region ?_
          refine WL_q rfl (ev_assign rfl) ?_
          refine WL_nil ?_
          refine thenE_n ?_
          refine W_ret ?_
          refine thenE_r ?_
          refine ret1 rfl rfl ?_
          first | (exact ⟨rfl, hE⟩) | (exact (bneE hg52 (hr42.det1 hr30)).elim) | (exact absurd (hr42.det1 hr30) hp52) | (exact absurd (hr42.det1 hr30) (of_decide_eq_false hg52)) | (exact (bneE hg52 (hr42.det2 hr30)).elim) | (exact absurd (hr42.det2 hr30) hp52) | (exact absurd (hr42.det2 hr30) (of_decide_eq_false hg52)) | (exact (bneE hg52 (hr42.det3 hr30)).elim) | (exact absurd (hr42.det3 hr30) hp52) | (exact absurd (hr42.det3 hr30) (of_decide_eq_false hg52)) | (exact (tfX hg52).elim) | (exact (decF hg52).elim) | (exfalso; omega)
        · have hp52 := of_decide_eq_false hg52
          refine WL_qg rfl rfl hg52 rfl (ev_move rfl) ?_
          refine WL_qg rfl rfl hg52 rfl (ev_move rfl) ?_
          refine WL_qg rfl rfl hg52 rfl (ev_neq_b Try.underlying4 rfl rfl) ?_
          refine WL_q rfl (ev_pick_f rfl hg52 rfl) ?_
          refine WL_nil ?_
          refine thenE_n ?_
          refine W_cond rfl (fun hg57 => ?_) (fun hg57 => ?_)
          · refine W_seq ?_
            refine W_region ?_
            refine WL_q rfl (ev_assign rfl) ?_
            refine WL_nil ?_
            refine thenE_n ?_
            refine W_ret ?_
            refine thenE_r ?_
            refine ret1 rfl rfl ?_
            first | (exact ⟨rfl, hE⟩) | (exact (bneE hg57 (hr42.det1 hr30)).elim) | (exact absurd (hr42.det1 hr30) hp57) | (exact absurd (hr42.det1 hr30) (of_decide_eq_false hg57)) | (exact (bneE hg57 (hr42.det2 hr30)).elim) | (exact absurd (hr42.det2 hr30) hp57) | (exact absurd (hr42.det2 hr30) (of_decide_eq_false hg57)) | (exact (bneE hg57 (hr42.det3 hr30)).elim) | (exact absurd (hr42.det3 hr30) hp57) | (exact absurd (hr42.det3 hr30) (of_decide_eq_false hg57)) | (exact (tfX hg57).elim) | (exact (decF hg57).elim) | (exfalso; omega)
          · refine W_skip ?_
            refine thenE_n ?_
            refine W_seq ?_
            refine W_seq ?_
            refine W_drawE [(0, true), (1, true), (2, false), (3, false), (4, true)] mixed (by kernel_rfl) rfl (by kernel_rfl) ?_
            intro wd13 hEd13 hzd13
            replace hE := hE.trans hEd13
            replace hA := hA.ext hEd13
            replace hO := hO.ext hEd13
            replace hB3 := hB3.ext hEd13
            replace hF26 := hF26.ext hEd13
            replace hN26 := hN26.ext hEd13
            replace hF29 := hF29.ext hEd13
            replace hI29 := hI29.ext hEd13
            replace hF35 := hF35.ext hEd13
            replace hN35 := hN35.ext hEd13
            replace hB11 := hB11.ext hEd13
            replace hF37 := hF37.ext hEd13
            replace hI37 := hI37.ext hEd13
            have hDd13 := Ext.refl wd13
            refine PW_q rfl rfl (fun wq hq => ev_loads st41 sz41 rfl (cellsB (hq.blk hB11)) rfl) ?_
            refine PW_q rfl rfl (fun wq hq => ev_loads st35 sz35 rfl (cellsB (hq.blk hB3)) rfl) ?_
            refine PW_m rfl rfl (ev_call rfl (toNetwork_spec _ A _ hA (by omega) (by omega))) ?_
            rintro _ w61 ⟨h61, rfl, hF61, hE61⟩
            have hz61 := hE61.size
            replace hE := hE.trans hE61
            replace hDd13 := hDd13.trans hE61
            have hN61 := hF61.is
            refine ⟨hDd13, ?_⟩
            have hA_3 := hA.ext hDd13
            have hO_3 := hO.ext hDd13
            have hB3_3 := hB3.ext hDd13
            have hF26_3 := hF26.ext hDd13
            have hN26_3 := hN26.ext hDd13
            have hF29_3 := hF29.ext hDd13
            have hI29_3 := hI29.ext hDd13
            have hF35_3 := hF35.ext hDd13
            have hN35_3 := hN35.ext hDd13
            have hB11_3 := hB11.ext hDd13
            have hF37_3 := hF37.ext hDd13
            have hI37_3 := hI37.ext hDd13
            refine PW_m rfl rfl (ev_call rfl (eqNetwork_spec _ _ A _ hN35_3 hN61 (by omega))) ?_
            rintro _ w62 ⟨rfl, hE62⟩
            have hz62 := hE62.size
            replace hE := hE.trans hE62
            replace hDd13 := hDd13.trans hE62
            replace hF61 := hF61.ext hE62
            replace hN61 := hN61.ext hE62
            refine ⟨hDd13, ?_⟩
            refine PW_q rfl rfl (fun wq hq => ev_not rfl) ?_
            replace hA := hA.ext hDd13
            replace hO := hO.ext hDd13
            replace hB3 := hB3.ext hDd13
            replace hF26 := hF26.ext hDd13
            replace hN26 := hN26.ext hDd13
            replace hF29 := hF29.ext hDd13
            replace hI29 := hI29.ext hDd13
            replace hF35 := hF35.ext hDd13
            replace hN35 := hN35.ext hDd13
            replace hB11 := hB11.ext hDd13
            replace hF37 := hF37.ext hDd13
            replace hI37 := hI37.ext hDd13
            refine PW_nil ?_
            refine thenE_n ?_
            refine W_cond rfl (fun hg63 => ?_) (fun hg63 => ?_)
            · have hg62 := not_true hg63
              refine W_seq ?_
              refine W_region ?_
              refine WL_q rfl (ev_assign rfl) ?_
              refine WL_nil ?_
              refine thenE_n ?_
              refine W_ret ?_
              refine thenE_r ?_
              refine ret1 rfl rfl ?_
              first | (exact ⟨rfl, hE⟩) | (exact (bneE hg62 (hr42.det1 hr30)).elim) | (exact absurd (hr42.det1 hr30) hp62) | (exact absurd (hr42.det1 hr30) (of_decide_eq_false hg62)) | (exact (bneE hg62 (hr42.det2 hr30)).elim) | (exact absurd (hr42.det2 hr30) hp62) | (exact absurd (hr42.det2 hr30) (of_decide_eq_false hg62)) | (exact (bneE hg62 (hr42.det3 hr30)).elim) | (exact absurd (hr42.det3 hr30) hp62) | (exact absurd (hr42.det3 hr30) (of_decide_eq_false hg62)) | (exact (tfX hg62).elim) | (exact (decF hg62).elim) | (exfalso; omega)
            · have hg62 := not_false hg63
              refine W_skip ?_
              refine thenE_n ?_
              refine W_seq ?_
              refine W_seq ?_
              refine W_region ?_
              refine WL_q rfl (ev_move rfl) ?_
              refine WL_q rfl (ev_move rfl) ?_
              refine WL_m rfl (ev_call rfl (toIntS_spec _ _ O _ hO (by omega) (by omega))) ?_
              rintro _ w66 ⟨a66, rfl, hF66, hE66⟩
              have hz66 := hE66.size
              replace hE := hE.trans hE66
              replace hA := hA.ext hE66
              replace hO := hO.ext hE66
              replace hB3 := hB3.ext hE66
              replace hF26 := hF26.ext hE66
              replace hN26 := hN26.ext hE66
              replace hF29 := hF29.ext hE66
              replace hI29 := hI29.ext hE66
              replace hF35 := hF35.ext hE66
              replace hN35 := hN35.ext hE66
              replace hB11 := hB11.ext hE66
              replace hF37 := hF37.ext hE66
              replace hI37 := hI37.ext hE66
              replace hF61 := hF61.ext hE66
              replace hN61 := hN61.ext hE66
              have hI66 := hF66.is
              refine WL_m rfl (ev_call rfl (eqIntS_spec _ _ _ _ O O _ hI37 hI66 (by omega))) ?_
              rintro _ w67 ⟨rfl, hE67⟩
              have hz67 := hE67.size
              replace hE := hE.trans hE67
              replace hA := hA.ext hE67
              replace hO := hO.ext hE67
              replace hB3 := hB3.ext hE67
              replace hF26 := hF26.ext hE67
              replace hN26 := hN26.ext hE67
              replace hF29 := hF29.ext hE67
              replace hI29 := hI29.ext hE67
              replace hF35 := hF35.ext hE67
              replace hN35 := hN35.ext hE67
              replace hB11 := hB11.ext hE67
              replace hF37 := hF37.ext hE67
              replace hI37 := hI37.ext hE67
              replace hF61 := hF61.ext hE67
              replace hN61 := hN61.ext hE67
              replace hF66 := hF66.ext hE67
              replace hI66 := hI66.ext hE67
              refine WL_q rfl (ev_not rfl) ?_
              refine WL_nil ?_
              refine thenE_n ?_
              refine W_cond rfl (fun hg68 => ?_) (fun hg68 => ?_)
              · have hg67 := not_true hg68
                refine W_seq ?_
                refine W_region ?_
                refine WL_q rfl (ev_assign rfl) ?_
                refine WL_nil ?_
                refine thenE_n ?_
                refine W_ret ?_
                refine thenE_r ?_
                refine ret1 rfl rfl ?_
                first | (exact ⟨rfl, hE⟩) | (exact (bneE hg67 (hr42.det1 hr30)).elim) | (exact absurd (hr42.det1 hr30) hp67) | (exact absurd (hr42.det1 hr30) (of_decide_eq_false hg67)) | (exact (bneE hg67 (hr42.det2 hr30)).elim) | (exact absurd (hr42.det2 hr30) hp67) | (exact absurd (hr42.det2 hr30) (of_decide_eq_false hg67)) | (exact (bneE hg67 (hr42.det3 hr30)).elim) | (exact absurd (hr42.det3 hr30) hp67) | (exact absurd (hr42.det3 hr30) (of_decide_eq_false hg67)) | (exact (tfX hg67).elim) | (exact (decF hg67).elim) | (exfalso; omega)
              · have hg67 := not_false hg68
                refine W_skip ?_
                refine thenE_n ?_
                refine W_seq ?_
                refine W_region ?_
                refine WL_q rfl (ev_assign rfl) ?_
                refine WL_nil ?_
                refine thenE_n ?_
                refine W_ret ?_
                refine ret1 rfl rfl ?_
                first | (exact ⟨rfl, hE⟩) | (exact (bneE hg67 (hr42.det1 hr30)).elim) | (exact absurd (hr42.det1 hr30) hp67) | (exact absurd (hr42.det1 hr30) (of_decide_eq_false hg67)) | (exact (bneE hg67 (hr42.det2 hr30)).elim) | (exact absurd (hr42.det2 hr30) hp67) | (exact absurd (hr42.det2 hr30) (of_decide_eq_false hg67)) | (exact (bneE hg67 (hr42.det3 hr30)).elim) | (exact absurd (hr42.det3 hr30) hp67) | (exact absurd (hr42.det3 hr30) (of_decide_eq_false hg67)) | (exact (tfX hg67).elim) | (exact (decF hg67).elim) | (exfalso; omega)

def LD (A : Net) (G : List Int → Prop) (r : Int) (q : Bool) : Prop := (q = true ∧ ∃ t : Nat, r = (t : Int) ∧ G (vw A t) ∧ ∀ s, s < t → ¬ G (vw A s)) ∨ (q = false ∧ r = 0 ∧ ∀ s, ¬ G (vw A s))
theorem LD.det {A : Net} {G : List Int → Prop} {r r' : Int} {q q' : Bool} (h : LD A G r q) (k : LD A G r' q') : r = r' ∧ q = q' := by
  rcases h with ⟨hq, t, hr, h1, h2⟩ | ⟨hq, hr, h1⟩ <;> rcases k with ⟨kq, t', kr, k1, k2⟩ | ⟨kq, kr, k1⟩
  · have : t = t' := by
      rcases Nat.lt_trichotomy t t' with e | e | e
      · exact absurd h1 (k2 t e)
      · exact e
      · exact absurd k1 (h2 t' e)
    subst this
    exact ⟨by rw [hr, kr], by rw [hq, kq]⟩
  · exact absurd h1 (k1 t)
  · exact absurd k1 (h1 t')
  · exact ⟨by rw [hr, kr], by rw [hq, kq]⟩
def LDV (V : Prop) (A : Net) (G : List Int → Prop) (r : Int) (q : Bool) : Prop := (V ∧ LD A G r q) ∨ (¬ V ∧ r = 0 ∧ q = false)
theorem LDV.det {V : Prop} {A : Net} {G : List Int → Prop} {r r' : Int} {q q' : Bool} (h : LDV V A G r q) (k : LDV V A G r' q') : r = r' ∧ q = q' := by
  rcases h with ⟨h1, h2⟩ | ⟨h1, h2, h3⟩ <;> rcases k with ⟨k1, k2⟩ | ⟨k1, k2, k3⟩
  · exact h2.det k2
  · exact absurd h1 k1
  · exact absurd k1 h1
  · exact ⟨by rw [h2, k2], by rw [h3, k3]⟩
theorem LDV.det1 {V : Prop} {A : Net} {G : List Int → Prop} {r r' : Int} {q q' : Bool} (h : LDV V A G r q) (k : LDV V A G r' q') : r = r' := (h.det k).1
theorem LDV.det2 {V : Prop} {A : Net} {G : List Int → Prop} {r r' : Int} {q q' : Bool} (h : LDV V A G r q) (k : LDV V A G r' q') : q = q' := (h.det k).2
abbrev NoC (O X : List Int) : Prop := ∀ u v, ¬ ConfAt X O u v
theorem ld_all {A : Net} (hv : VOk A) {G : List Int → Prop} {T i : Nat} (hs : StableAt A T) (hi : T < i) (hJ : ∀ s, s < i → ¬ G (vw A s)) : ∀ s, ¬ G (vw A s) := by
  intro s
  by_cases h : s < i
  · exact hJ s h
  · rw [hs.fix hv (show T ≤ s by omega)]; exact hJ T hi
theorem stable_ex {A : Net} (hv : VOk A) : ∃ T, StableAt A T := by
  refine Classical.byContradiction fun hno => ?_
  have h : ∀ t, t ≤ vc A t ∧ ∀ s, s < t → vc A (s + 1) ≠ vc A s := by
    intro t
    induction t with
    | zero => exact ⟨Nat.zero_le _, fun s hs => absurd hs (Nat.not_lt_zero _)⟩
    | succ t ih =>
      have hne : vc A (t + 1) ≠ vc A t := fun e => hno ⟨t, e, ih.2, Nat.le_trans ih.1 (vc_le A t)⟩
      exact ⟨vc_grow hv ih.1 hne, fun s hs => by rcases Nat.lt_succ_iff_lt_or_eq.1 hs with h | h; exact ih.2 s h; subst h; exact hne⟩
  have h1 := (h (A.ends.length + 1)).1
  have h2 := vc_le A (A.ends.length + 1)
  omega

set_option maxRecDepth 100000 in
theorem leastDepth_spec {lo hi : Nat} (h : NA) (A : Net) (f : FuncId) (cap : List Value) (G : List Int → Prop) (w : World) (hA : IsNet lo hi w h A) (hhi : hi ≤ w.heap.size) (hn : totN A ≤ 1048576) (hv : VOk A) (hp : ∀ (X : List Int) (a : Option Addr) (c : Nat) (w1 : World), Ext w w1 → Ints 0 w1.heap.size w1 a c X → X.length = A.ends.length → Fn Try.prog f ([] ++ [Value.slice a A.ends.length c] ++ cap).toArray w1 (fun v w2 => ∃ b, v = VB b ∧ (b = true ↔ G X) ∧ Ext w1 w2)) :
    Fn Try.prog 84 #[netV h A, .func (.func f) #[] cap.toArray] w (fun r w' => ∃ x q, r = .tuple #[VI x, VB q] ∧ LD A G x q ∧ Ext w w') := by
  have hpos := hv.pos
  have hE := Ext.refl w
  refine Fn_of Try.func84 rfl rfl (by kernel_rfl) rfl ?_
  refine W_seq ?_
  refine W_region ?_
  refine WL_m rfl (ev_box rfl) ?_
  rintro _ w2 ⟨rfl, hN2⟩
  have hz2 := hN2.size
  replace hE := hE.trans hN2.ext
  replace hA := hA.ext hN2.ext
  have hB2 : Blk w2 _ _ [_, _, _] := hN2.blk
  refine WL_q rfl (ev_assign rfl) ?_
  refine WL_q rfl (ev_assign rfl) ?_
  refine WL_nil ?_
  refine thenE_n ?_
  refine W_seq ?_
  refine W_region ?_
  refine WL_q rfl (ev_loads st41 sz41 rfl (cellsB hB2) rfl) ?_
  refine WL_m rfl (ev_call rfl (stable_spec _ A _ hA (by omega) (by omega) (by assumption))) ?_
  rintro _ w12 ⟨T12, a12, c12, rfl, hs12, hO12, hE12⟩
  have hz12 := hE12.size
  replace hE := hE.trans hE12
  replace hA := hA.ext hE12
  replace hB2 := hB2.ext hE12
  have hsl := hs12.le
  refine WL_q rfl (ev_move rfl) ?_
  refine WL_q rfl (ev_extract rfl rfl) ?_
  refine WL_q rfl (ev_extract rfl rfl) ?_
  refine WL_q rfl (ev_assign rfl) ?_
  refine WL_q rfl (ev_assign rfl) ?_
  refine WL_nil ?_
  refine thenE_n ?_
  refine W_seq ?_
  refine W_region ?_
  refine WL_q rfl (ev_loads st41 sz41 rfl (cellsB hB2) rfl) ?_
  refine WL_m rfl (ev_call rfl (viewClasses_nil _ A _ hA (by omega) (by omega) hv)) ?_
  rintro _ w16 ⟨a16, c16, rfl, hO16, hE16⟩
  have hz16 := hE16.size
  replace hE := hE.trans hE16
  replace hA := hA.ext hE16
  replace hB2 := hB2.ext hE16
  replace hO12 := hO12.ext hE16
  refine WL_q rfl (ev_assign rfl) ?_
  refine WL_nil ?_
  refine thenE_n ?_
  refine W_seq ?_
  refine W_seq ?_
  refine W_region ?_
  refine WL_q rfl (ev_assign rfl) ?_
  refine WL_nil ?_
  refine thenE_n ?_
  refine W_block ?_
  refine W_loopC (G := Nat × Option Addr × Nat) [(1, _), (2, _), (6, _)] ((Subs.c rfl (Subs.c rfl (Subs.c rfl Subs.n)))) (fun ⟨i, a, c⟩ => [(8, .slice a A.ends.length c), (9, VI (i : Int))]) (fun ⟨i, a, c⟩ w' => Ext w16 w' ∧ (i ≤ T12 + 1 ∧ ∀ s, s < i → ¬ G (vw A s)) ∧ OwnH w2.heap.size w'.heap.size 0 0 w' 3 1 a A.ends.length c ((vw A i).map VI)) (fun g => T12 + 1 - g.1) (0, _, _) ((Subs.c rfl (Subs.c rfl Subs.n))) (⟨Ext.refl _, ⟨⟨by omega, fun s hs => absurd hs (Nat.not_lt_zero _)⟩, hO16.h.up (by omega) (by omega)⟩⟩) ?_
  rintro ⟨i, a, c⟩ wL0 ⟨hRL0, ⟨hi', hJ⟩, hO⟩
  have hzL0 := hRL0.size
  replace hE := hE.trans hRL0
  replace hA := hA.ext hRL0
  replace hB2 := hB2.ext hRL0
  replace hO12 := hO12.ext hRL0
  replace hO16 := hO16.ext hRL0
  refine W_seq ?_
  refine W_seq ?_
  refine W_region ?_
  refine WL_q rfl (ev_move rfl) ?_
  refine WL_q rfl (ev_move rfl) ?_
  refine WL_q rfl (ev_leq rfl rfl) ?_
  refine WL_nil ?_
  refine thenE_n ?_
  refine W_cond rfl (fun hg19 => ?_) (fun hg19 => ?_)
  · have hp19 := of_decide_eq_true hg19
    refine W_skip ?_
    refine thenE_n ?_
    refine W_seq ?_
    refine W_block ?_
    refine W_seq ?_
    refine W_seq ?_
    refine W_region ?_
    refine WL_q rfl (ev_move rfl) ?_
    refine WL_q rfl (ev_move rfl) ?_
    refine WL_m rfl (ev_callv rfl rfl (hp (vw A i) _ _ _ hE ((ownt_i hO).mono (Nat.zero_le _) (Nat.le_refl _)) (vw_len A i))) ?_
    rintro _ w24 ⟨b24, rfl, hb24, hE24⟩
    have hz24 := hE24.size
    replace hE := hE.trans hE24
    replace hRL0 := hRL0.trans hE24
    replace hA := hA.ext hE24
    replace hB2 := hB2.ext hE24
    replace hO12 := hO12.ext hE24
    replace hO := hO.ext hE24
    refine WL_nil ?_
    refine thenE_n ?_
    refine W_cond rfl (fun hg24 => ?_) (fun hg24 => ?_)
    · have hp24 := hb24.1 hg24
      refine W_seq ?_
      refine W_region ?_
      refine WL_q rfl (ev_move rfl) ?_
      refine WL_q rfl (ev_assign rfl) ?_
      refine WL_q rfl (ev_assign rfl) ?_
      refine WL_nil ?_
      refine thenE_n ?_
      refine W_ret ?_
      refine thenE_r ?_
      refine blockE_r ?_
      refine thenE_r ?_
      refine thenE_r ?_
      refine blockE_r ?_
      refine thenE_r ?_
      refine ret2 rfl rfl rfl ?_
      first | (exact ⟨_, _, rfl, .inl ⟨rfl, i, rfl, hp24, hJ⟩, hE⟩) | (exact ⟨_, _, rfl, .inr ⟨rfl, rfl, ld_all hv hs12 (by omega) hJ⟩, hE⟩)
    · have hp24 := ttN hb24 hg24
      refine W_skip ?_
      refine thenE_n ?_
      refine W_region ?_
      refine WL_q rfl (ev_loads st41 sz41 rfl (cellsB hB2) rfl) ?_
      refine WL_q rfl (ev_move rfl) ?_
      refine WL_m rfl (ev_call rfl (viewClasses_some _ A _ _ (vw A i) _ hA (by omega) (by omega) hv (ownt_is hO) (by omega) (vw_len A _) (fun x hx => by have := vw_rng A _ x hx; omega))) ?_
      rintro _ w28 ⟨a28, c28, rfl, hO28, hE28⟩
      have hz28 := hE28.size
      replace hE := hE.trans hE28
      replace hRL0 := hRL0.trans hE28
      replace hA := hA.ext hE28
      replace hB2 := hB2.ext hE28
      replace hO12 := hO12.ext hE28
      replace hO := hO.ext hE28
      refine WL_q rfl (ev_assign rfl) ?_
      refine WL_nil ?_
      refine blockE_n ?_
      refine thenE_n ?_
      refine W_region ?_
      refine WL_q rfl (ev_move rfl) ?_
      refine WL_q rfl (ev_add rfl rfl (by omega)) ?_
      refine WL_q rfl (ev_assign rfl) ?_
      refine WL_nil ?_
      refine thenE_n ?_
      exact ⟨(i + 1, a28, c28), (Subs.c rfl (Subs.c rfl (Subs.c rfl Subs.n))), (Subs.c rfl (Subs.c (lkI rfl (by omega)) Subs.n)), ⟨hRL0, ⟨⟨by omega, fun s hs => by rcases Nat.lt_succ_iff_lt_or_eq.1 hs with h | h; exact hJ s h; subst h; exact hp24⟩, hO28.h.up (by omega) (by omega)⟩⟩, by first | omega | (dsimp only; omega)⟩
  · have hp19 := of_decide_eq_false hg19
    refine W_exit ?_
    refine thenE_x ?_
    refine thenE_x ?_
    refine blockE_hit ?_
    refine thenE_n ?_
    refine W_seq ?_
    refine W_region ?_
    refine WL_q rfl (ev_assign rfl) ?_
    refine WL_q rfl (ev_assign rfl) ?_
    refine WL_nil ?_
    refine thenE_n ?_
    refine W_ret ?_
    refine ret2 rfl rfl rfl ?_
    first | (exact ⟨_, _, rfl, .inl ⟨rfl, i, rfl, hp24, hJ⟩, hE⟩) | (exact ⟨_, _, rfl, .inr ⟨rfl, rfl, ld_all hv hs12 (by omega) hJ⟩, hE⟩)

set_option maxRecDepth 100000 in
theorem LeastDepth_1 {lo hi lo2 hi2 n m : Nat} (a a2 : Option Addr) (c c2 : Nat) (b : Nat) (T : TypeId) (X O : List Int) (w : World) (hB : Blk w b T [.slice a2 m c2]) (hm : m = n) (hX : Ints lo hi w a c X) (hO : Ints lo2 hi2 w a2 c2 O) (hXl : X.length = n) (hOl : O.length = n) (hn : n ≤ 1048576) :
    Fn Try.prog 85 #[.slice a n c, ptr b 0] w (fun v w' => ∃ q, v = VB q ∧ (q = true ↔ NoC O X) ∧ Ext w w') := by
  have hE := Ext.refl w
  refine Fn_of Try.func85 rfl rfl (by kernel_rfl) rfl ?_
  refine W_seq ?_
  refine W_region ?_
  refine WL_q rfl (ev_assign rfl) ?_
  refine WL_nil ?_
  refine thenE_n ?_
  refine W_seq ?_
  refine W_region ?_
  refine WL_q rfl (ev_move rfl) ?_
  refine WL_q rfl (ev_load one23 rfl (hB.cell rfl)) ?_
  refine WL_m rfl (ev_call rfl (conflictIn_len _ _ _ _ X O _ hX hO hXl hOl hn hm)) ?_
  rintro _ w10 ⟨x10, y10, b10, rfl, hc10, hE10⟩
  have hz10 := hE10.size
  replace hE := hE.trans hE10
  replace hB := hB.ext hE10
  replace hX := hX.ext hE10
  replace hO := hO.ext hE10
  refine WL_q rfl (ev_move rfl) ?_
  refine WL_q rfl (ev_extract rfl rfl) ?_
  refine WL_q rfl (ev_extract rfl rfl) ?_
  refine WL_q rfl (ev_extract rfl rfl) ?_
  refine WL_q rfl (ev_assign rfl) ?_
  refine WL_q rfl (ev_assign rfl) ?_
  refine WL_q rfl (ev_assign rfl) ?_
  refine WL_nil ?_
  refine thenE_n ?_
  refine W_seq ?_
  refine W_region ?_
  refine WL_q rfl (ev_move rfl) ?_
  refine WL_q rfl (ev_not rfl) ?_
  refine WL_q rfl (ev_assign rfl) ?_
  refine WL_nil ?_
  refine thenE_n ?_
  refine W_ret ?_
  refine ret1 rfl rfl ?_
  exact ⟨_, rfl, by rw [Bool.not_eq_true']; exact hc10.none, hE⟩

set_option maxRecDepth 100000 in
theorem LeastDepthOf_spec {loA hiA : Nat} (nA : NA) (A : Net) {loO hiO : Nat} (aO : Option Addr) (cO : Nat) (O : List Int) (w : World) (hA : IsNet loA hiA w nA A) (hhiA : hiA ≤ w.heap.size) (hnA : totN A ≤ 1048576) (hO : Ints loO hiO w aO cO O) (hhiO : hiO ≤ w.heap.size) (hnO : O.length ≤ 1048576) :
    Fn Try.prog 36 #[netV nA A, .slice aO O.length cO] w (fun r w' => ∃ x q, r = .tuple #[VI x, VB q] ∧ LDV (NOk A ∧ ((O.length : Int) = A.ends.length ∧ allR O 0 99 = true)) A (NoC O) x q ∧ Ext w w') := by
  have hqA := totL_len A.ends
  have hmA : totL A.ends + A.ids.length + A.inputs.length ≤ 1048576 := hnA
  have hE := Ext.refl w
  refine Fn_of Try.func36 rfl rfl (by kernel_rfl) rfl ?_
  refine W_seq ?_
  refine W_region ?_
  refine WL_m rfl (ev_box rfl) ?_
  rintro _ w2 ⟨rfl, hN2⟩
  have hz2 := hN2.size
  replace hE := hE.trans hN2.ext
  replace hA := hA.ext hN2.ext
  replace hO := hO.ext hN2.ext
  have hB2 : Blk w2 _ _ [_, _, _] := hN2.blk
  refine WL_m rfl (ev_box rfl) ?_
  rintro _ w3 ⟨rfl, hN3⟩
  have hz3 := hN3.size
  replace hE := hE.trans hN3.ext
  replace hA := hA.ext hN3.ext
  replace hO := hO.ext hN3.ext
  replace hB2 := hB2.ext hN3.ext
  have hB3 : Blk w3 _ _ [_] := hN3.blk
  refine WL_q rfl (ev_assign rfl) ?_
  refine WL_q rfl (ev_assign rfl) ?_
  refine WL_nil ?_
  refine thenE_n ?_
  refine W_seq ?_
  refine W_seq ?_
  refine W_region ?_
  refine WL_q rfl (ev_loads st41 sz41 rfl (cellsB hB2) rfl) ?_
  refine WL_m rfl (ev_call rfl (IsNetwork_spec _ A _ hA (by omega) (by omega))) ?_
  rintro _ w7 ⟨b7, rfl, hb7, hE7⟩
  have hz7 := hE7.size
  replace hE := hE.trans hE7
  replace hA := hA.ext hE7
  replace hO := hO.ext hE7
  replace hB2 := hB2.ext hE7
  replace hB3 := hB3.ext hE7
  refine WL_q rfl (ev_not rfl) ?_
  refine WL_q rfl (ev_move rfl) ?_
  refine WL_splitv (t := 9) rfl (fun hg8 => ?_) (fun hg8 => ?_)
  · have hg7 := not_true hg8
    have hp7 := ttN hb7 hg7
    refine WL_no rfl rfl hg8 rfl ?_
    refine WL_no rfl rfl hg8 rfl ?_
    refine WL_no rfl rfl hg8 rfl ?_
    refine WL_no rfl rfl hg8 rfl ?_
    refine WL_q rfl (ev_pick_t rfl hg8 rfl) ?_
    refine WL_nil ?_
    refine thenE_n ?_
    refine W_cond_t rfl ?_
    refine W_seq ?_
    refine W_region ?_
    refine WL_q rfl (ev_assign rfl) ?_
    refine WL_q rfl (ev_assign rfl) ?_
    refine WL_nil ?_
    refine thenE_n ?_
    refine W_ret ?_
    refine thenE_r ?_
    refine ret2 rfl rfl rfl ?_
    first | (exact ⟨_, _, rfl, .inr ⟨fun h => hp7 h.1, rfl, rfl⟩, hE⟩) | (exact ⟨_, _, rfl, .inr ⟨fun h => hp12 h.2, rfl, rfl⟩, hE⟩) | (exact ⟨_, _, rfl, .inl ⟨⟨hp7, hp12⟩, hl17⟩, hE⟩)
  · have hg7 := not_false hg8
    have hp7 := hb7.1 hg7
    refine WL_qg rfl rfl hg8 rfl (ev_loads st41 sz41 rfl (cellsB hB2) rfl) ?_
    refine WL_qg rfl rfl hg8 rfl (ev_load one23 rfl (hB3.cell rfl)) ?_
    refine WL_mg rfl rfl hg8 rfl (ev_call rfl (outputsOk_spec _ A _ _ O _ hA (by omega) (by omega) hO (by omega) (by omega))) ?_
    rintro _ w12 ⟨b12, rfl, hb12, hE12⟩
    have hz12 := hE12.size
    replace hE := hE.trans hE12
    replace hA := hA.ext hE12
    replace hO := hO.ext hE12
    replace hB2 := hB2.ext hE12
    replace hB3 := hB3.ext hE12
    refine WL_qg rfl rfl hg8 rfl (ev_not rfl) ?_
    refine WL_q rfl (ev_pick_f rfl hg8 rfl) ?_
    refine WL_nil ?_
    refine thenE_n ?_
    refine W_cond rfl (fun hg13 => ?_) (fun hg13 => ?_)
    · have hg12 := not_true hg13
      have hp12 := ttN hb12 hg12
      refine W_seq ?_
      refine W_region ?_
      refine WL_q rfl (ev_assign rfl) ?_
      refine WL_q rfl (ev_assign rfl) ?_
      refine WL_nil ?_
      refine thenE_n ?_
      refine W_ret ?_
      refine thenE_r ?_
      refine ret2 rfl rfl rfl ?_
      first | (exact ⟨_, _, rfl, .inr ⟨fun h => hp7 h.1, rfl, rfl⟩, hE⟩) | (exact ⟨_, _, rfl, .inr ⟨fun h => hp12 h.2, rfl, rfl⟩, hE⟩) | (exact ⟨_, _, rfl, .inl ⟨⟨hp7, hp12⟩, hl17⟩, hE⟩)
    · have hg12 := not_false hg13
      have hp12 := hb12.1 hg12
      refine W_skip ?_
      refine thenE_n ?_
      refine W_seq ?_
      refine W_region ?_
      have hv := hp7.vok
      have hol := hp12.1
      have hoN : O.length = A.ends.length := by omega
      refine WL_q rfl (ev_loads st41 sz41 rfl (cellsB hB2) rfl) ?_
      refine WL_q rfl (ev_makeFunc rfl rfl) ?_
      refine WL_m rfl (ev_call rfl (leastDepth_spec _ A _ [_] (NoC O) _ hA (by omega) (by omega) hv (fun X a c w1 hw hX hXl => LeastDepth_1 _ _ _ _ _ _ X O w1 (hB3.ext hw) hoN hX (hO.ext hw) hXl hoN (by omega)))) ?_
      rintro _ w17 ⟨x17, q17, rfl, hl17, hE17⟩
      have hz17 := hE17.size
      replace hE := hE.trans hE17
      replace hA := hA.ext hE17
      replace hO := hO.ext hE17
      replace hB2 := hB2.ext hE17
      replace hB3 := hB3.ext hE17
      refine WL_q rfl (ev_extract rfl rfl) ?_
      refine WL_q rfl (ev_extract rfl rfl) ?_
      refine WL_q rfl (ev_assign rfl) ?_
      refine WL_q rfl (ev_assign rfl) ?_
      refine WL_nil ?_
      refine thenE_n ?_
      refine W_ret ?_
      refine ret2 rfl rfl rfl ?_
      first | (exact ⟨_, _, rfl, .inr ⟨fun h => hp7 h.1, rfl, rfl⟩, hE⟩) | (exact ⟨_, _, rfl, .inr ⟨fun h => hp12 h.2, rfl, rfl⟩, hE⟩) | (exact ⟨_, _, rfl, .inl ⟨⟨hp7, hp12⟩, hl17⟩, hE⟩)

set_option maxRecDepth 100000 in
theorem sLeastDepthOf_spec {loA hiA : Nat} (nA : NA) (A : Net) {loO hiO : Nat} (aO : Option Addr) (cO : Nat) (O : List Int) (w : World) (hA : IsNet loA hiA w nA A) (hhiA : hiA ≤ w.heap.size) (hnA : totN A ≤ 1048576) (hO : Ints loO hiO w aO cO O) (hhiO : hiO ≤ w.heap.size) (hnO : O.length ≤ 1048576) :
    Fn Try.prog 35 #[netV nA A, .slice aO O.length cO] w (fun r w' => ∃ x q, r = .tuple #[VI x, VB q] ∧ LDV (NOk A ∧ ((O.length : Int) = A.ends.length ∧ allR O 0 99 = true)) A (NoC O) x q ∧ Ext w w') := by
  have hqA := totL_len A.ends
  have hmA : totL A.ends + A.ids.length + A.inputs.length ≤ 1048576 := hnA
  have hE := Ext.refl w
  refine Fn_of Try.func35 rfl rfl (by kernel_rfl) rfl ?_
  refine W_seq ?_
  refine W_region ?_
  refine WL_m rfl (ev_box rfl) ?_
  rintro _ w2 ⟨rfl, hN2⟩
  have hz2 := hN2.size
  replace hE := hE.trans hN2.ext
  replace hA := hA.ext hN2.ext
  replace hO := hO.ext hN2.ext
  have hB2 : Blk w2 _ _ [_, _, _] := hN2.blk
  refine WL_q rfl (ev_assign rfl) ?_
  refine WL_q rfl (ev_assign rfl) ?_
  refine WL_nil ?_
  refine thenE_n ?_
  refine W_seq ?_
  refine W_seq ?_
  refine W_region ?_
  refine WL_q rfl (ev_loads st41 sz41 rfl (cellsB hB2) rfl) ?_
  refine WL_q rfl (ev_move rfl) ?_
  refine WL_m rfl (ev_call rfl (taOuts_spec _ A _ _ O _ hA (by omega) (by omega) hO (by omega) (by omega))) ?_
  rintro _ w12 ⟨b12, rfl, hb12, hE12⟩
  have hz12 := hE12.size
  replace hE := hE.trans hE12
  replace hA := hA.ext hE12
  replace hO := hO.ext hE12
  replace hB2 := hB2.ext hE12
  refine WL_q rfl (ev_not rfl) ?_
  refine WL_nil ?_
  refine thenE_n ?_
  refine W_cond rfl (fun hg13 => ?_) (fun hg13 => ?_)
  · have hg12 := not_true hg13
    have hp12 := ttN hb12 hg12
    refine W_seq ?_
    refine W_region ?_
    refine WL_q rfl (ev_assign rfl) ?_
    refine WL_q rfl (ev_assign rfl) ?_
    refine WL_nil ?_
    refine thenE_n ?_
    refine W_ret ?_
    refine thenE_r ?_
    refine ret2 rfl rfl rfl ?_
    first | (exact ⟨_, _, rfl, .inr ⟨hp12, rfl, rfl⟩, hE⟩) | (exact ⟨_, _, rfl, .inl ⟨hp12, .inl ⟨rfl, i, rfl, hc22.none.1 hg25, hJ⟩⟩, hE⟩) | (exact ⟨_, _, rfl, .inl ⟨hp12, .inr ⟨rfl, rfl, ld_all hv hT (by omega) hJ⟩⟩, hE⟩)
  · have hg12 := not_false hg13
    have hp12 := hb12.1 hg12
    refine W_skip ?_
    refine thenE_n ?_
    refine W_seq ?_
    refine W_seq ?_
    refine W_region ?_
    refine WL_q rfl (ev_assign rfl) ?_
    refine WL_nil ?_
    refine thenE_n ?_
    refine W_block ?_
    have hv := hp12.1.vok
    have hol := hp12.2.1
    have hpos := hv.pos
    obtain ⟨T, hT⟩ := stable_ex hv
    have hTl := hT.le
    refine W_loopC (G := Nat) [(1, _), (2, _)] ((Subs.c rfl (Subs.c rfl Subs.n))) (fun i => [(6, VI (i : Int))]) (fun i w' => Ext w12 w' ∧ i ≤ 81 ∧ ∀ s, s < i → ¬ NoC O (vw A s)) (fun i => 81 - i) 0 ((Subs.c rfl Subs.n)) (⟨Ext.refl _, ⟨by omega, fun s hs => absurd hs (Nat.not_lt_zero _)⟩⟩) ?_
    rintro i wL0 ⟨hRL0, hi', hJ⟩
    have hzL0 := hRL0.size
    replace hE := hE.trans hRL0
    replace hA := hA.ext hRL0
    replace hO := hO.ext hRL0
    replace hB2 := hB2.ext hRL0
    refine W_seq ?_
    refine W_seq ?_
    refine W_region ?_
    refine WL_q rfl (ev_move rfl) ?_
    refine WL_q rfl (ev_leq rfl rfl) ?_
    refine WL_nil ?_
    refine thenE_n ?_
    refine W_cond rfl (fun hg15 => ?_) (fun hg15 => ?_)
    · have hp15 := of_decide_eq_true hg15
      refine W_skip ?_
      refine thenE_n ?_
      refine W_seq ?_
      refine W_block ?_
      refine W_seq ?_
      refine W_region ?_
      refine WL_q rfl (ev_loads st41 sz41 rfl (cellsB hB2) rfl) ?_
      refine WL_q rfl (ev_move rfl) ?_
      refine WL_q rfl (ev_move rfl) ?_
      refine WL_m rfl (ev_call rfl (taConflict_spec _ A _ _ _ O _ hA (by omega) (by omega) hO (by omega) (by omega) (by assumption) (by omega) (by omega))) ?_
      rintro _ w22 ⟨x22, y22, b22, rfl, hc22, hE22⟩
      have hz22 := hE22.size
      replace hE := hE.trans hE22
      replace hRL0 := hRL0.trans hE22
      replace hA := hA.ext hE22
      replace hO := hO.ext hE22
      replace hB2 := hB2.ext hE22
      refine WL_q rfl (ev_move rfl) ?_
      refine WL_q rfl (ev_extract rfl rfl) ?_
      refine WL_q rfl (ev_extract rfl rfl) ?_
      refine WL_q rfl (ev_extract rfl rfl) ?_
      refine WL_q rfl (ev_assign rfl) ?_
      refine WL_q rfl (ev_assign rfl) ?_
      refine WL_q rfl (ev_assign rfl) ?_
      refine WL_nil ?_
      refine thenE_n ?_
      refine W_seq ?_
      refine W_region ?_
      refine WL_q rfl (ev_move rfl) ?_
      refine WL_q rfl (ev_not rfl) ?_
      refine WL_nil ?_
      refine thenE_n ?_
      refine W_cond rfl (fun hg27 => ?_) (fun hg27 => ?_)
      · have hg25 := not_true hg27
        refine W_seq ?_
        refine W_region ?_
        refine WL_q rfl (ev_move rfl) ?_
        refine WL_q rfl (ev_assign rfl) ?_
        refine WL_q rfl (ev_assign rfl) ?_
        refine WL_nil ?_
        refine thenE_n ?_
        refine W_ret ?_
        refine blockE_r ?_
        refine thenE_r ?_
        refine thenE_r ?_
        refine blockE_r ?_
        refine thenE_r ?_
        refine ret2 rfl rfl rfl ?_
        first | (exact ⟨_, _, rfl, .inr ⟨hp12, rfl, rfl⟩, hE⟩) | (exact ⟨_, _, rfl, .inl ⟨hp12, .inl ⟨rfl, i, rfl, hc22.none.1 hg25, hJ⟩⟩, hE⟩) | (exact ⟨_, _, rfl, .inl ⟨hp12, .inr ⟨rfl, rfl, ld_all hv hT (by omega) hJ⟩⟩, hE⟩)
      · have hg25 := not_false hg27
        refine W_skip ?_
        refine blockE_n ?_
        refine thenE_n ?_
        refine W_region ?_
        refine WL_q rfl (ev_move rfl) ?_
        refine WL_q rfl (ev_add rfl rfl (by omega)) ?_
        refine WL_q rfl (ev_assign rfl) ?_
        refine WL_nil ?_
        refine thenE_n ?_
        exact ⟨i + 1, (Subs.c rfl (Subs.c rfl Subs.n)), (Subs.c (lkI rfl (by omega)) Subs.n), ⟨hRL0, ⟨by omega, fun s hs => by rcases Nat.lt_succ_iff_lt_or_eq.1 hs with h | h; exact hJ s h; subst h; exact fun hN => by have h9 := hc22.none.2 hN; rw [h9] at hg25; cases hg25⟩⟩, by first | omega | (dsimp only; omega)⟩
    · have hp15 := of_decide_eq_false hg15
      refine W_exit ?_
      refine thenE_x ?_
      refine thenE_x ?_
      refine blockE_hit ?_
      refine thenE_n ?_
      refine W_seq ?_
      refine W_region ?_
      refine WL_q rfl (ev_assign rfl) ?_
      refine WL_q rfl (ev_assign rfl) ?_
      refine WL_nil ?_
      refine thenE_n ?_
      refine W_ret ?_
      refine ret2 rfl rfl rfl ?_
      first | (exact ⟨_, _, rfl, .inr ⟨hp12, rfl, rfl⟩, hE⟩) | (exact ⟨_, _, rfl, .inl ⟨hp12, .inl ⟨rfl, i, rfl, hc22.none.1 hg25, hJ⟩⟩, hE⟩) | (exact ⟨_, _, rfl, .inl ⟨hp12, .inr ⟨rfl, rfl, ld_all hv hT (by omega) hJ⟩⟩, hE⟩)

set_option maxRecDepth 100000 in
theorem law_LeastDepthOf (nA : NA) (A : Net) (aO : Option Addr) (cO : Nat) (O : List Int) (w : World) (hA : IsNet 0 w.heap.size w nA A) (hsA : SmN A) (hO : Ints 0 w.heap.size w aO cO O) :
    Fn Try.prog 9 #[netV nA A, .slice aO O.length cO] w (fun v w' => v = VB true ∧ Ext w w') := by
  have hE := Ext.refl w
  refine Fn_of Try.func9 rfl rfl (by kernel_rfl) rfl ?_
  refine W_seq ?_
  refine W_region ?_
  refine WL_m rfl (ev_box rfl) ?_
  rintro _ w2 ⟨rfl, hN2⟩
  have hz2 := hN2.size
  replace hE := hE.trans hN2.ext
  replace hA := hA.ext hN2.ext
  replace hO := hO.ext hN2.ext
  have hB2 : Blk w2 _ _ [_, _, _] := hN2.blk
  refine WL_q rfl (ev_assign rfl) ?_
  refine WL_nil ?_
  refine thenE_n ?_
  refine W_seq ?_
  refine W_seq ?_
  refine W_region ?_
  refine WL_q rfl (ev_move rfl) ?_
  refine WL_q rfl (ev_len Try.underlying23 rfl) ?_
  refine WL_q rfl (ev_gtr rfl rfl) ?_
  refine WL_nil ?_
  refine thenE_n ?_
  refine W_cond rfl (fun hg14 => ?_) (fun hg14 => ?_)
  · have hp14 := of_decide_eq_true hg14
    refine W_seq ?_
    refine W_region ?_
    refine WL_q rfl (ev_assign rfl) ?_
    refine WL_nil ?_
    refine thenE_n ?_
    refine W_ret ?_
    refine thenE_r ?_
    refine ret1 rfl rfl ?_
    first | (exact ⟨rfl, hE⟩) | (exact (tfX hg14).elim) | (exact (decF hg14).elim) | (exfalso; omega)
  · have hp14 := of_decide_eq_false hg14
    refine W_skip ?_
    refine thenE_n ?_
    refine W_seq ?_
    refine W_region ?_
    refine WL_q rfl (ev_assign rfl) ?_
    refine WL_nil ?_
    refine thenE_n ?_
    refine W_seq ?_
    refine W_region ?_
    refine WL_q rfl (ev_loads st35 sz35 rfl (cellsB hB2) rfl) ?_
    refine WL_q rfl (ev_move rfl) ?_
    refine WL_m rfl (ev_call rfl (szNetwork_spec _ A _ _ hA (by omega) hsA)) ?_
    rintro _ w17 ⟨r17, rfl, hE17, hr17⟩
    have hz17 := hE17.size
    replace hE := hE.trans hE17
    replace hA := hA.ext hE17
    replace hO := hO.ext hE17
    replace hB2 := hB2.ext hE17
    refine WL_q rfl (ev_assign rfl) ?_
    refine WL_nil ?_
    refine thenE_n ?_
    refine W_seq ?_
    refine W_seq ?_
    refine W_region ?_
    refine WL_q rfl (ev_move rfl) ?_
    refine WL_q rfl (ev_lss rfl rfl) ?_
    refine WL_nil ?_
    refine thenE_n ?_
    refine W_cond rfl (fun hg19 => ?_) (fun hg19 => ?_)
    · have hp19 := of_decide_eq_true hg19
      refine W_seq ?_
      refine W_region ?_
      refine WL_q rfl (ev_assign rfl) ?_
      refine WL_nil ?_
      refine thenE_n ?_
      refine W_ret ?_
      refine thenE_r ?_
      refine ret1 rfl rfl ?_
      first | (exact ⟨rfl, hE⟩) | (exact (tfX hg19).elim) | (exact (decF hg19).elim) | (exfalso; omega)
    · have hp19 := of_decide_eq_false hg19
      refine W_skip ?_
      refine thenE_n ?_
      refine W_seq ?_
      refine W_region ?_
      refine WL_q rfl (ev_loads st35 sz35 rfl (cellsB hB2) rfl) ?_
      refine WL_m rfl (ev_call rfl (toNetwork_spec _ A _ hA (by omega) (by omega))) ?_
      rintro _ w22 ⟨h22, rfl, hF22, hE22⟩
      have hz22 := hE22.size
      replace hE := hE.trans hE22
      replace hA := hA.ext hE22
      replace hO := hO.ext hE22
      replace hB2 := hB2.ext hE22
      have hN22 := hF22.is
      refine WL_q rfl (ev_move rfl) ?_
      refine WL_m rfl (ev_call rfl (toIntS_spec _ _ O _ hO (by omega) (by omega))) ?_
      rintro _ w24 ⟨a24, rfl, hF24, hE24⟩
      have hz24 := hE24.size
      replace hE := hE.trans hE24
      replace hA := hA.ext hE24
      replace hO := hO.ext hE24
      replace hB2 := hB2.ext hE24
      replace hF22 := hF22.ext hE24
      replace hN22 := hN22.ext hE24
      have hI24 := hF24.is
      refine WL_m rfl (ev_call rfl (sLeastDepthOf_spec _ A _ _ O _ hN22 (by omega) (by omega) hI24 (by omega) (by omega))) ?_
      rintro _ w25 ⟨x25, q25, rfl, hr25, hE25⟩
      have hz25 := hE25.size
      replace hE := hE.trans hE25
      replace hA := hA.ext hE25
      replace hO := hO.ext hE25
      replace hB2 := hB2.ext hE25
      replace hF22 := hF22.ext hE25
      replace hN22 := hN22.ext hE25
      replace hF24 := hF24.ext hE25
      replace hI24 := hI24.ext hE25
      refine WL_q rfl (ev_move rfl) ?_
      refine WL_q rfl (ev_extract rfl rfl) ?_
      refine WL_q rfl (ev_extract rfl rfl) ?_
      refine WL_q rfl (ev_assign rfl) ?_
      refine WL_q rfl (ev_assign rfl) ?_
      refine WL_nil ?_
      refine thenE_n ?_
      refine W_seq ?_
      refine W_region ?_
      refine WL_q rfl (ev_loads st35 sz35 rfl (cellsB hB2) rfl) ?_
      refine WL_m rfl (ev_call rfl (toNetwork_spec _ A _ hA (by omega) (by omega))) ?_
      rintro _ w29 ⟨h29, rfl, hF29, hE29⟩
      have hz29 := hE29.size
      replace hE := hE.trans hE29
      replace hA := hA.ext hE29
      replace hO := hO.ext hE29
      replace hB2 := hB2.ext hE29
      replace hF22 := hF22.ext hE29
      replace hN22 := hN22.ext hE29
      replace hF24 := hF24.ext hE29
      replace hI24 := hI24.ext hE29
      have hN29 := hF29.is
      refine WL_m rfl (ev_alloc zr41) ?_
      rintro _ w8 ⟨rfl, hN8⟩
      have hz8 := hN8.size
      replace hE := hE.trans hN8.ext
      replace hA := hA.ext hN8.ext
      replace hO := hO.ext hN8.ext
      replace hB2 := hB2.ext hN8.ext
      replace hF22 := hF22.ext hN8.ext
      replace hN22 := hN22.ext hN8.ext
      replace hF24 := hF24.ext hN8.ext
      replace hI24 := hI24.ext hN8.ext
      replace hF29 := hF29.ext hN8.ext
      replace hN29 := hN29.ext hN8.ext
      have hB8 : Blk w8 _ _ [_, _, _] := hN8.blk
      refine WL_s (ev_stores sz41 rfl rfl rfl (by simp [Value.oneCell']) hB8 (by simp)) ?_
      rintro _ w8_3 hS8_3
      have hz8_3 := hS8_3.size
      replace hE := hE.sto hS8_3 (by omega)
      replace hA := hA.sto hS8_3 (by omega)
      replace hO := hO.sto hS8_3 (by omega)
      replace hB2 := hB2.sto hS8_3 (by omega)
      replace hF22 := hF22.sto hS8_3 (by omega)
      replace hN22 := hN22.sto hS8_3 (by omega)
      replace hF24 := hF24.sto hS8_3 (by omega)
      replace hI24 := hI24.sto hS8_3 (by omega)
      replace hF29 := hF29.sto hS8_3 (by omega)
      replace hN29 := hN29.sto hS8_3 (by omega)
      replace hB8 : Blk w8_3 _ _ [_, _, _] := hS8_3.blk
      refine WL_nil ?_
      refine thenE_n ?_
      refine W_seq ?_
      refine W_region ?_
      refine WL_q rfl (ev_move rfl) ?_
      refine WL_m rfl (ev_call rfl (toIntS_spec _ _ O _ hO (by omega) (by omega))) ?_
      rintro _ w31 ⟨a31, rfl, hF31, hE31⟩
      have hz31 := hE31.size
      replace hE := hE.trans hE31
      replace hA := hA.ext hE31
      replace hO := hO.ext hE31
      replace hB2 := hB2.ext hE31
      replace hF22 := hF22.ext hE31
      replace hN22 := hN22.ext hE31
      replace hF24 := hF24.ext hE31
      replace hI24 := hI24.ext hE31
      replace hF29 := hF29.ext hE31
      replace hN29 := hN29.ext hE31
      replace hB8 := hB8.ext hE31
      have hI31 := hF31.is
      refine WL_q rfl (ev_assign rfl) ?_
      refine WL_nil ?_
      refine thenE_n ?_
      refine W_seq ?_
      refine W_region ?_
      refine WL_q rfl (ev_loads st41 sz41 rfl (cellsB hB8) rfl) ?_
      refine WL_q rfl (ev_move rfl) ?_
      refine WL_m rfl (ev_call rfl (LeastDepthOf_spec _ A _ _ O _ hN29 (by omega) (by omega) hI31 (by omega) (by omega))) ?_
      rintro _ w35 ⟨x35, q35, rfl, hr35, hE35⟩
      have hz35 := hE35.size
      replace hE := hE.trans hE35
      replace hA := hA.ext hE35
      replace hO := hO.ext hE35
      replace hB2 := hB2.ext hE35
      replace hF22 := hF22.ext hE35
      replace hN22 := hN22.ext hE35
      replace hF24 := hF24.ext hE35
      replace hI24 := hI24.ext hE35
      replace hF29 := hF29.ext hE35
      replace hN29 := hN29.ext hE35
      replace hB8 := hB8.ext hE35
      replace hF31 := hF31.ext hE35
      replace hI31 := hI31.ext hE35
      refine WL_q rfl (ev_move rfl) ?_
      refine WL_q rfl (ev_extract rfl rfl) ?_
      refine WL_q rfl (ev_extract rfl rfl) ?_
      refine WL_q rfl (ev_assign rfl) ?_
      refine WL_q rfl (ev_assign rfl) ?_
      refine WL_nil ?_
      refine thenE_n ?_
      refine W_seq ?_
      refine W_seq ?_
      refine W_region ?_
      refine WL_q rfl (ev_move rfl) ?_
      refine WL_q rfl (ev_move rfl) ?_
      refine WL_q rfl (ev_neq rfl rfl) ?_
      refine WL_q rfl (ev_move rfl) ?_
      refine WL_splitv (t := 41) rfl (fun hg40 => ?_) (fun hg40 => ?_)
      · have hp40 := of_decide_eq_true hg40
        refine WL_no rfl rfl hg40 rfl ?_
        refine WL_no rfl rfl hg40 rfl ?_
        refine WL_no rfl rfl hg40 rfl ?_
        refine WL_q rfl (ev_pick_t rfl hg40 rfl) ?_
        refine WL_nil ?_
        refine thenE_n ?_
        refine W_cond_t rfl ?_
        refine W_seq ?_
        refine W_region ?_
        refine WL_q rfl (ev_assign rfl) ?_
        refine WL_nil ?_
        refine thenE_n ?_
        refine W_ret ?_
        refine thenE_r ?_
        refine ret1 rfl rfl ?_
        first | (exact ⟨rfl, hE⟩) | (exact (bneE hg40 (hr35.det1 hr25)).elim) | (exact absurd (hr35.det1 hr25) hp40) | (exact absurd (hr35.det1 hr25) (of_decide_eq_false hg40)) | (exact (bneE hg40 (hr35.det2 hr25)).elim) | (exact absurd (hr35.det2 hr25) hp40) | (exact absurd (hr35.det2 hr25) (of_decide_eq_false hg40)) | (exact (bneE hg40 (hr35.det3 hr25)).elim) | (exact absurd (hr35.det3 hr25) hp40) | (exact absurd (hr35.det3 hr25) (of_decide_eq_false hg40)) | (exact (tfX hg40).elim) | (exact (decF hg40).elim) | (exfalso; omega)
      · have hp40 := of_decide_eq_false hg40
        refine WL_qg rfl rfl hg40 rfl (ev_move rfl) ?_
        refine WL_qg rfl rfl hg40 rfl (ev_move rfl) ?_
        refine WL_qg rfl rfl hg40 rfl (ev_neq_b Try.underlying4 rfl rfl) ?_
        refine WL_q rfl (ev_pick_f rfl hg40 rfl) ?_
        refine WL_nil ?_
        refine thenE_n ?_
        refine W_cond rfl (fun hg44 => ?_) (fun hg44 => ?_)
        · refine W_seq ?_
          refine W_region ?_
          refine WL_q rfl (ev_assign rfl) ?_
          refine WL_nil ?_
          refine thenE_n ?_
          refine W_ret ?_
          refine thenE_r ?_
          refine ret1 rfl rfl ?_
          first | (exact ⟨rfl, hE⟩) | (exact (bneE hg44 (hr35.det1 hr25)).elim) | (exact absurd (hr35.det1 hr25) hp44) | (exact absurd (hr35.det1 hr25) (of_decide_eq_false hg44)) | (exact (bneE hg44 (hr35.det2 hr25)).elim) | (exact absurd (hr35.det2 hr25) hp44) | (exact absurd (hr35.det2 hr25) (of_decide_eq_false hg44)) | (exact (bneE hg44 (hr35.det3 hr25)).elim) | (exact absurd (hr35.det3 hr25) hp44) | (exact absurd (hr35.det3 hr25) (of_decide_eq_false hg44)) | (exact (tfX hg44).elim) | (exact (decF hg44).elim) | (exfalso; omega)
        · refine W_skip ?_
          refine thenE_n ?_
          refine W_seq ?_
          refine W_seq ?_
          refine W_drawE [(0, true), (1, true), (2, false), (3, false), (4, true)] mixed (by kernel_rfl) rfl (by kernel_rfl) ?_
          intro wd13 hEd13 hzd13
          replace hE := hE.trans hEd13
          replace hA := hA.ext hEd13
          replace hO := hO.ext hEd13
          replace hB2 := hB2.ext hEd13
          replace hF22 := hF22.ext hEd13
          replace hN22 := hN22.ext hEd13
          replace hF24 := hF24.ext hEd13
          replace hI24 := hI24.ext hEd13
          replace hF29 := hF29.ext hEd13
          replace hN29 := hN29.ext hEd13
          replace hB8 := hB8.ext hEd13
          replace hF31 := hF31.ext hEd13
          replace hI31 := hI31.ext hEd13
          have hDd13 := Ext.refl wd13
          refine PW_q rfl rfl (fun wq hq => ev_loads st41 sz41 rfl (cellsB (hq.blk hB8)) rfl) ?_
          refine PW_q rfl rfl (fun wq hq => ev_loads st35 sz35 rfl (cellsB (hq.blk hB2)) rfl) ?_
          refine PW_m rfl rfl (ev_call rfl (toNetwork_spec _ A _ hA (by omega) (by omega))) ?_
          rintro _ w48 ⟨h48, rfl, hF48, hE48⟩
          have hz48 := hE48.size
          replace hE := hE.trans hE48
          replace hDd13 := hDd13.trans hE48
          have hN48 := hF48.is
          refine ⟨hDd13, ?_⟩
          have hA_3 := hA.ext hDd13
          have hO_3 := hO.ext hDd13
          have hB2_3 := hB2.ext hDd13
          have hF22_3 := hF22.ext hDd13
          have hN22_3 := hN22.ext hDd13
          have hF24_3 := hF24.ext hDd13
          have hI24_3 := hI24.ext hDd13
          have hF29_3 := hF29.ext hDd13
          have hN29_3 := hN29.ext hDd13
          have hB8_3 := hB8.ext hDd13
          have hF31_3 := hF31.ext hDd13
          have hI31_3 := hI31.ext hDd13
          refine PW_m rfl rfl (ev_call rfl (eqNetwork_spec _ _ A _ hN29_3 hN48 (by omega))) ?_
          rintro _ w49 ⟨rfl, hE49⟩
          have hz49 := hE49.size
          replace hE := hE.trans hE49
          replace hDd13 := hDd13.trans hE49
          replace hF48 := hF48.ext hE49
          replace hN48 := hN48.ext hE49
          refine ⟨hDd13, ?_⟩
          refine PW_q rfl rfl (fun wq hq => ev_not rfl) ?_
          replace hA := hA.ext hDd13
          replace hO := hO.ext hDd13
          replace hB2 := hB2.ext hDd13
          replace hF22 := hF22.ext hDd13
          replace hN22 := hN22.ext hDd13
          replace hF24 := hF24.ext hDd13
          replace hI24 := hI24.ext hDd13
          replace hF29 := hF29.ext hDd13
          replace hN29 := hN29.ext hDd13
          replace hB8 := hB8.ext hDd13
          replace hF31 := hF31.ext hDd13
          replace hI31 := hI31.ext hDd13
          refine PW_nil ?_
          refine thenE_n ?_
          refine W_cond rfl (fun hg50 => ?_) (fun hg50 => ?_)
          · have hg49 := not_true hg50
            refine W_seq ?_
            refine W_region ?_
            refine WL_q rfl (ev_assign rfl) ?_
            refine WL_nil ?_
            refine thenE_n ?_
            refine W_ret ?_
            refine thenE_r ?_
            refine ret1 rfl rfl ?_
            first | (exact ⟨rfl, hE⟩) | (exact (bneE hg49 (hr35.det1 hr25)).elim) | (exact absurd (hr35.det1 hr25) hp49) | (exact absurd (hr35.det1 hr25) (of_decide_eq_false hg49)) | (exact (bneE hg49 (hr35.det2 hr25)).elim) | (exact absurd (hr35.det2 hr25) hp49) | (exact absurd (hr35.det2 hr25) (of_decide_eq_false hg49)) | (exact (bneE hg49 (hr35.det3 hr25)).elim) | (exact absurd (hr35.det3 hr25) hp49) | (exact absurd (hr35.det3 hr25) (of_decide_eq_false hg49)) | (exact (tfX hg49).elim) | (exact (decF hg49).elim) | (exfalso; omega)
          · have hg49 := not_false hg50
            refine W_skip ?_
            refine thenE_n ?_
            refine W_seq ?_
            refine W_seq ?_
            refine W_region ?_
            refine WL_q rfl (ev_move rfl) ?_
            refine WL_q rfl (ev_move rfl) ?_
            refine WL_m rfl (ev_call rfl (toIntS_spec _ _ O _ hO (by omega) (by omega))) ?_
            rintro _ w53 ⟨a53, rfl, hF53, hE53⟩
            have hz53 := hE53.size
            replace hE := hE.trans hE53
            replace hA := hA.ext hE53
            replace hO := hO.ext hE53
            replace hB2 := hB2.ext hE53
            replace hF22 := hF22.ext hE53
            replace hN22 := hN22.ext hE53
            replace hF24 := hF24.ext hE53
            replace hI24 := hI24.ext hE53
            replace hF29 := hF29.ext hE53
            replace hN29 := hN29.ext hE53
            replace hB8 := hB8.ext hE53
            replace hF31 := hF31.ext hE53
            replace hI31 := hI31.ext hE53
            replace hF48 := hF48.ext hE53
            replace hN48 := hN48.ext hE53
            have hI53 := hF53.is
            refine WL_m rfl (ev_call rfl (eqIntS_spec _ _ _ _ O O _ hI31 hI53 (by omega))) ?_
            rintro _ w54 ⟨rfl, hE54⟩
            have hz54 := hE54.size
            replace hE := hE.trans hE54
            replace hA := hA.ext hE54
            replace hO := hO.ext hE54
            replace hB2 := hB2.ext hE54
            replace hF22 := hF22.ext hE54
            replace hN22 := hN22.ext hE54
            replace hF24 := hF24.ext hE54
            replace hI24 := hI24.ext hE54
            replace hF29 := hF29.ext hE54
            replace hN29 := hN29.ext hE54
            replace hB8 := hB8.ext hE54
            replace hF31 := hF31.ext hE54
            replace hI31 := hI31.ext hE54
            replace hF48 := hF48.ext hE54
            replace hN48 := hN48.ext hE54
            replace hF53 := hF53.ext hE54
            replace hI53 := hI53.ext hE54
            refine WL_q rfl (ev_not rfl) ?_
            refine WL_nil ?_
            refine thenE_n ?_
            refine W_cond rfl (fun hg55 => ?_) (fun hg55 => ?_)
            · have hg54 := not_true hg55
              refine W_seq ?_
              refine W_region ?_
              refine WL_q rfl (ev_assign rfl) ?_
              refine WL_nil ?_
              refine thenE_n ?_
              refine W_ret ?_
              refine thenE_r ?_
              refine ret1 rfl rfl ?_
              first | (exact ⟨rfl, hE⟩) | (exact (bneE hg54 (hr35.det1 hr25)).elim) | (exact absurd (hr35.det1 hr25) hp54) | (exact absurd (hr35.det1 hr25) (of_decide_eq_false hg54)) | (exact (bneE hg54 (hr35.det2 hr25)).elim) | (exact absurd (hr35.det2 hr25) hp54) | (exact absurd (hr35.det2 hr25) (of_decide_eq_false hg54)) | (exact (bneE hg54 (hr35.det3 hr25)).elim) | (exact absurd (hr35.det3 hr25) hp54) | (exact absurd (hr35.det3 hr25) (of_decide_eq_false hg54)) | (exact (tfX hg54).elim) | (exact (decF hg54).elim) | (exfalso; omega)
            · have hg54 := not_false hg55
              refine W_skip ?_
              refine thenE_n ?_
              refine W_seq ?_
              refine W_region ?_
              refine WL_q rfl (ev_assign rfl) ?_
              refine WL_nil ?_
              refine thenE_n ?_
              refine W_ret ?_
              refine ret1 rfl rfl ?_
              first | (exact ⟨rfl, hE⟩) | (exact (bneE hg54 (hr35.det1 hr25)).elim) | (exact absurd (hr35.det1 hr25) hp54) | (exact absurd (hr35.det1 hr25) (of_decide_eq_false hg54)) | (exact (bneE hg54 (hr35.det2 hr25)).elim) | (exact absurd (hr35.det2 hr25) hp54) | (exact absurd (hr35.det2 hr25) (of_decide_eq_false hg54)) | (exact (bneE hg54 (hr35.det3 hr25)).elim) | (exact absurd (hr35.det3 hr25) hp54) | (exact absurd (hr35.det3 hr25) (of_decide_eq_false hg54)) | (exact (tfX hg54).elim) | (exact (decF hg54).elim) | (exfalso; omega)

end Go.Proofs.Ytiagmcjhpckcaaa
