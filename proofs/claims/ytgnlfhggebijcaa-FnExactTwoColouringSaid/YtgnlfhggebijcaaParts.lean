/- Contracts of ComponentsOf and CentresOf, of the program and of the reference; the walks of their laws. -/
import Derived.Test.YtgnlfhggebijcaaDist
namespace Go.Proofs.Ytgnlfhggebijcaa
open Go Go.RowKit

set_option maxRecDepth 100000 in
theorem meParts_spec {loA hiA : Nat} (nA : NA) (A : Net) (w : World) (hA : IsNet loA hiA w nA A) (hhiA : hiA ≤ w.heap.size) (hnA : totN A ≤ 1048576) (hk : EndsOk A.ends) (hs : SymE A.ends) (h40 : A.ends.length ≤ 40) (h0 : 0 < A.ends.length) :
    Fn Try.prog 66 #[netV nA A] w (fun o9 w' => ∃ a' c', o9 = .slice a' (prt A.ends).length c' ∧ Own w.heap.size w' 3 1 a' (prt A.ends).length c' ((prt A.ends).map VI) ∧ Ext w w') := by
  have hqA := totL_len A.ends
  have hmA : totL A.ends + A.ids.length + A.inputs.length ≤ 1048576 := hnA
  have hpl := prt_len A.ends
  have hE := Ext.refl w
  refine Fn_of Try.func66 rfl rfl (by kernel_rfl) rfl ?_
  refine W_seq ?_
  refine W_region ?_
  refine WL_m rfl (ev_box rfl) ?_
  rintro _ w1 ⟨rfl, hN1⟩
  have hz1 := hN1.size
  replace hE := hE.trans hN1.ext
  replace hA := hA.ext hN1.ext
  have hB1 : Blk w1 _ _ [_, _, _] := hN1.blk
  refine WL_q rfl (ev_assign rfl) ?_
  refine WL_nil ?_
  refine thenE_n ?_
  refine W_seq ?_
  refine W_region ?_
  refine WL_q rfl (ev_assign rfl) ?_
  refine WL_nil ?_
  refine thenE_n ?_
  refine W_seq ?_
  refine W_seq ?_
  refine W_region ?_
  refine WL_q rfl (ev_fieldAddr fo31_0 rfl) ?_
  refine WL_q rfl (ev_load one29 rfl (hB1.cell rfl)) ?_
  refine WL_q rfl (ev_len Try.underlying29 rfl) ?_
  refine WL_q rfl (ev_move rfl) ?_
  refine WL_nil ?_
  refine thenE_n ?_
  refine W_block ?_
  refine W_loopC (G := Nat × Option Addr × Nat) [(1, _), (7, _)] ((Subs.c rfl (Subs.c rfl Subs.n))) (fun ⟨i, a, c⟩ => [(3, .slice a i c), (8, VI (i : Int))]) (fun ⟨i, a, c⟩ w' => Ext w1 w' ∧ i ≤ A.ends.length ∧ OwnH w1.heap.size w'.heap.size 0 0 w' 3 1 a i c (((prt A.ends).take i).map VI)) (fun g => A.ends.length - g.1) (0, none, 0) ((Subs.c rfl (Subs.c (lkI rfl (by omega)) Subs.n))) (⟨Ext.refl _, ⟨by omega, OwnH.nil⟩⟩) ?_
  rintro ⟨i, a, c⟩ wL0 ⟨hRL0, hi', hO⟩
  have hzL0 := hRL0.size
  replace hE := hE.trans hRL0
  replace hA := hA.ext hRL0
  replace hB1 := hB1.ext hRL0
  refine W_seq ?_
  refine W_region ?_
  refine WL_q rfl (ev_lss rfl rfl) ?_
  refine WL_nil ?_
  refine thenE_n ?_
  refine W_seq ?_
  refine W_cond rfl (fun hg9 => ?_) (fun hg9 => ?_)
  · have hp9 := of_decide_eq_true hg9
    refine W_skip ?_
    refine thenE_n ?_
    refine W_seq ?_
    refine W_block ?_
    refine W_seq ?_
    refine W_region ?_
    refine WL_q rfl (ev_move rfl) ?_
    refine WL_q rfl (ev_assign rfl) ?_
    refine WL_nil ?_
    refine thenE_n ?_
    refine W_region ?_
    refine WL_q rfl (ev_move rfl) ?_
    refine WL_q rfl (ev_loads st31 sz31 rfl (cellsB hB1) rfl) ?_
    refine WL_q rfl (ev_move rfl) ?_
    have hlt : i < A.ends.length := by omega
    have hbn := ball_ne hk h40 hlt
    refine WL_m rfl (ev_call rfl (meBall_spec _ A _ _ _ hA (by omega) (by omega) (by assumption) (by omega))) ?_
    rintro _ w14 ⟨a14, c14, rfl, hO14, hE14⟩
    have hz14 := hE14.size
    replace hE := hE.trans hE14
    replace hRL0 := hRL0.trans hE14
    replace hA := hA.ext hE14
    replace hB1 := hB1.ext hE14
    replace hO := hO.ext hE14
    refine WL_q rfl (ev_indexAddr Try.underlying23 sz3 rfl rfl ((own_i hO14).isSome (by omega)) (by omega) (by omega)) ?_
    refine WL_q rfl (ev_load one3 rfl ((own_i hO14).cell (i := 0) (by omega))) ?_
    refine WL_m rfl (ev_lit1 Try.underlying23 el3 (by decide) (by decide) rfl rfl) ?_
    rintro _ w17 ⟨rfl, hN17⟩
    have hz17 := hN17.size
    replace hE := hE.trans hN17.ext
    replace hRL0 := hRL0.trans hN17.ext
    replace hA := hA.ext hN17.ext
    replace hB1 := hB1.ext hN17.ext
    replace hO := hO.ext hN17.ext
    replace hO14 := hO14.ext hN17.ext
    have hB17 := hN17.blk
    refine WL_m rfl (ev_appendT Try.underlying23 el3 rfl (by decide) rfl rfl hO (SAt.of_blk (cs := [_]) (ds := []) hB17) rfl (by simp [Value.oneCell']) (by omega) (by unfold maxLen; omega) (by omega)) ?_
    rintro _ w18 ⟨a18, c18, rfl, hO18, hK18, hQ18⟩
    have hz18 := hK18.size
    replace hE := hE.rg hK18 (by omega)
    replace hRL0 := hRL0.rg hK18 (by omega)
    replace hA := hA.rg hK18 (by omega)
    replace hB1 := hB1.rg hK18 (by omega)
    replace hO14 := hO14.rg hK18 (by omega)
    replace hB17 := hB17.rg hK18 (by omega)
    replace hO := hO18
    replace hO := ownt_snocI hO
    refine WL_q rfl (ev_assign rfl) ?_
    refine WL_nil ?_
    refine blockE_n ?_
    refine thenE_n ?_
    refine W_region ?_
    refine WL_q rfl (ev_add rfl rfl (by omega)) ?_
    refine WL_q rfl (ev_move rfl) ?_
    refine WL_nil ?_
    refine thenE_n ?_
    exact ⟨(i + 1, a18, c18), (Subs.c rfl (Subs.c rfl Subs.n)), (Subs.c rfl (Subs.c (lkI rfl (by omega)) Subs.n)), ⟨hRL0, ⟨by omega, (ownt_take hO (by omega) ((prt_at (by omega) (h2 := hbn)).symm)).up (Nat.le_refl _) (by omega)⟩⟩, by first | omega | (dsimp only; omega)⟩
  · have hp9 := of_decide_eq_false hg9
    refine W_exit ?_
    refine thenE_x ?_
    refine thenE_x ?_
    refine blockE_hit ?_
    refine thenE_n ?_
    refine W_seq ?_
    refine W_region ?_
    refine WL_q rfl (ev_move rfl) ?_
    refine WL_q rfl (ev_assign rfl) ?_
    refine WL_nil ?_
    refine thenE_n ?_
    refine W_ret ?_
    refine ret1 rfl rfl ?_
    have hi9 : i = (prt A.ends).length := by omega
    subst hi9
    exact ⟨_, _, rfl, by rw [List.take_length] at hO; exact hO.1.mono (by omega), hE⟩

set_option maxHeartbeats 4000000 in
set_option maxRecDepth 100000 in
theorem components_spec {loA hiA : Nat} (nA : NA) (A : Net) (w : World) (hA : IsNet loA hiA w nA A) (hhiA : hiA ≤ w.heap.size) (hnA : totN A ≤ 1048576) (hk : EndsOk A.ends) (hs : SymE A.ends) (h40 : A.ends.length ≤ 40) (h0 : 0 < A.ends.length) :
    Fn Try.prog 67 #[netV nA A] w (fun o9 w' => ∃ a' c', o9 = .slice a' (prt A.ends).length c' ∧ Own w.heap.size w' 3 1 a' (prt A.ends).length c' ((prt A.ends).map VI) ∧ Ext w w') := by
  have hqA := totL_len A.ends
  have hmA : totL A.ends + A.ids.length + A.inputs.length ≤ 1048576 := hnA
  have hpl := prt_len A.ends
  have hcp := cmp_prt hk hs h40
  have hE := Ext.refl w
  refine Fn_of Try.func67 rfl rfl (by kernel_rfl) rfl ?_
  refine W_seq ?_
  refine W_region ?_
  refine WL_m rfl (ev_box rfl) ?_
  rintro _ w1 ⟨rfl, hN1⟩
  have hz1 := hN1.size
  replace hE := hE.trans hN1.ext
  replace hA := hA.ext hN1.ext
  have hB1 : Blk w1 _ _ [_, _, _] := hN1.blk
  refine WL_q rfl (ev_assign rfl) ?_
  refine WL_nil ?_
  refine thenE_n ?_
  refine W_seq ?_
  refine W_region ?_
  refine WL_m rfl (ev_lit1 Try.underlying23 el3 (by decide) (by decide) rfl rfl) ?_
  rintro _ w7 ⟨rfl, hN7⟩
  have hz7 := hN7.size
  replace hE := hE.trans hN7.ext
  replace hA := hA.ext hN7.ext
  replace hB1 := hB1.ext hN7.ext
  have hB7 := hN7.blk
  refine WL_q rfl (ev_fieldAddr fo31_0 rfl) ?_
  refine WL_q rfl (ev_load one29 rfl (hB1.cell rfl)) ?_
  refine WL_q rfl (ev_len Try.underlying29 rfl) ?_
  refine WL_m rfl (ev_call rfl (Repeat_one _ _ (-1) A.ends.length _ (Blk.ints (ys := [-1]) hB7 (by simp)) (by omega) (by omega) (by omega))) ?_
  rintro _ w11 ⟨rfl, hR11, hE11⟩
  have hz11 := hE11.size
  replace hE := hE.trans hE11
  replace hA := hA.ext hE11
  replace hB1 := hB1.ext hE11
  replace hB7 := hB7.ext hE11
  have hb11 := hR11.lt
  refine WL_q rfl (ev_assign rfl) ?_
  refine WL_nil ?_
  refine thenE_n ?_
  refine W_seq ?_
  refine W_seq ?_
  refine W_region ?_
  refine WL_q rfl (ev_move rfl) ?_
  refine WL_q rfl (ev_len Try.underlying23 rfl) ?_
  refine WL_q rfl (ev_move rfl) ?_
  refine WL_nil ?_
  refine thenE_n ?_
  refine W_block ?_
  refine W_loopC (G := Nat) [(1, _), (3, _), (13, _)] ((Subs.c rfl (Subs.c rfl (Subs.c rfl Subs.n)))) (fun i => [(14, VI (i : Int))]) (fun i w' => KX (w7.heap.size) w11 w' ∧ i ≤ A.ends.length ∧ Blk w' w7.heap.size 3 ((cmpN A.ends i).map VI)) (fun i => A.ends.length - i) 0 ((Subs.c (lkI rfl (by omega)) Subs.n)) (⟨KX.refl _ _, ⟨Nat.zero_le _, by rw [cmpN_zero]; exact hR11⟩⟩) ?_
  rintro i wL0 ⟨hRL0, hi', hBk⟩
  have hzL0 := hRL0.size
  replace hA := hA.kx hRL0 (by omega)
  replace hB1 := hB1.kx hRL0 (by omega)
  replace hB7 := hB7.kx hRL0 (by omega)
  replace hE := hE.kx hRL0 (by omega)
  have hcl := cmpN_len A.ends i
  refine W_seq ?_
  refine W_region ?_
  refine WL_q rfl (ev_lss rfl rfl) ?_
  refine WL_nil ?_
  refine thenE_n ?_
  refine W_seq ?_
  refine W_cond rfl (fun hg15 => ?_) (fun hg15 => ?_)
  · have hp15 := of_decide_eq_true hg15
    refine W_skip ?_
    refine thenE_n ?_
    refine W_seq ?_
    refine W_block ?_
    refine W_seq ?_
    refine W_region ?_
    refine WL_q rfl (ev_move rfl) ?_
    refine WL_q rfl (ev_assign rfl) ?_
    refine WL_nil ?_
    refine thenE_n ?_
    refine W_seq ?_
    refine W_seq ?_
    refine W_region ?_
    refine WL_q rfl (ev_move rfl) ?_
    refine WL_q rfl (ev_move rfl) ?_
    have hlt : i < A.ends.length := by omega
    refine WL_q rfl (ev_indexAddr Try.underlying23 sz3 rfl rfl rfl (by omega) (by omega)) ?_
    refine WL_q rfl (ev_load one3 rfl (icell hBk (i := i) (by omega) (by omega))) ?_
    refine WL_q rfl (ev_geq rfl rfl) ?_
    refine WL_nil ?_
    refine thenE_n ?_
    refine W_cond rfl (fun hg21 => ?_) (fun hg21 => ?_)
    · have hp21 := of_decide_eq_true hg21
      refine W_exit ?_
      refine thenE_x ?_
      refine blockE_hit ?_
      refine thenE_n ?_
      refine W_region ?_
      refine WL_q rfl (ev_add rfl rfl (by omega)) ?_
      refine WL_q rfl (ev_move rfl) ?_
      refine WL_nil ?_
      refine thenE_n ?_
      rw [cmpN_skip hk hlt (by omega) hp21] at hBk
      exact ⟨i + 1, (Subs.c rfl (Subs.c rfl (Subs.c rfl Subs.n))), (Subs.c (lkI rfl (by omega)) Subs.n), ⟨hRL0, ⟨by omega, hBk⟩⟩, by first | omega | (dsimp only; omega)⟩
    · have hp21 := of_decide_eq_false hg21
      refine W_skip ?_
      refine thenE_n ?_
      refine W_seq ?_
      refine W_region ?_
      refine WL_q rfl (ev_loads st31 sz31 rfl (cellsB hB1) rfl) ?_
      refine WL_q rfl (ev_move rfl) ?_
      have hl0 := bfs_len hk (v := (i : Int)) (by omega) (by omega)
      refine WL_m rfl (ev_call rfl (dist_spec _ A _ _ hA (by omega) (by omega) (by assumption) (by omega))) ?_
      rintro _ w24 ⟨a24, c24, rfl, hO24, hE24⟩
      have hz24 := hE24.size
      replace hE := hE.trans hE24
      replace hRL0 := hRL0.trans hE24
      replace hA := hA.ext hE24
      replace hB1 := hB1.ext hE24
      replace hB7 := hB7.ext hE24
      replace hBk := hBk.ext hE24
      have hI24 := own_i hO24
      refine WL_q rfl (ev_len Try.underlying23 rfl) ?_
      refine WL_q rfl (ev_move rfl) ?_
      refine WL_nil ?_
      refine thenE_n ?_
      refine W_block ?_
      refine W_loopC (G := Nat) [(1, _), (3, _), (4, _), (13, _), (14, _), (24, _), (25, _)] ((Subs.c rfl (Subs.c rfl (Subs.c rfl (Subs.c rfl (Subs.c rfl (Subs.c rfl (Subs.c rfl Subs.n)))))))) (fun k => [(26, VI (k : Int))]) (fun k w' => KX (w7.heap.size) w24 w' ∧ k ≤ A.ends.length ∧ Blk w' w7.heap.size 3 ((cmpK A.ends i k).map VI)) (fun k => A.ends.length - k) 0 ((Subs.c (lkI rfl (by omega)) Subs.n)) (⟨KX.refl _ _, ⟨Nat.zero_le _, by rw [cmpK_zero]; exact hBk⟩⟩) ?_
      rintro k wL2 ⟨hRL2, hk', hBk⟩
      have hzL2 := hRL2.size
      replace hA := hA.kx hRL2 (by omega)
      replace hB1 := hB1.kx hRL2 (by omega)
      replace hB7 := hB7.kx hRL2 (by omega)
      replace hI24 := hI24.kx hRL2 (by omega)
      replace hE := hE.kx hRL2 (by omega)
      replace hRL0 := hRL0.kx hRL2 (by omega)
      have hkl := cmpK_len A.ends i k
      refine W_seq ?_
      refine W_region ?_
      refine WL_q rfl (ev_lss rfl rfl) ?_
      refine WL_nil ?_
      refine thenE_n ?_
      refine W_seq ?_
      refine W_cond rfl (fun hg27 => ?_) (fun hg27 => ?_)
      · have hp27 := of_decide_eq_true hg27
        refine W_skip ?_
        refine thenE_n ?_
        refine W_seq ?_
        refine W_block ?_
        refine W_seq ?_
        refine W_region ?_
        refine WL_q rfl (ev_move rfl) ?_
        have hlk : k < (bfs A.ends (i : Int)).length := by omega
        refine WL_q rfl (ev_indexAddr Try.underlying23 sz3 rfl rfl (hI24.isSome (by omega)) (by omega) (by omega)) ?_
        refine WL_q rfl (ev_load one3 rfl (hI24.cell (i := k) (by omega))) ?_
        refine WL_q rfl (ev_assign rfl) ?_
        refine WL_q rfl (ev_assign rfl) ?_
        refine WL_nil ?_
        refine thenE_n ?_
        refine W_seq ?_
        refine W_region ?_
        refine WL_q rfl (ev_move rfl) ?_
        refine WL_q rfl (ev_geq rfl rfl) ?_
        refine WL_nil ?_
        refine thenE_n ?_
        refine W_cond rfl (fun hg32 => ?_) (fun hg32 => ?_)
        · have hp32 := of_decide_eq_true hg32
          refine W_region ?_
          refine WL_q rfl (ev_move rfl) ?_
          refine WL_q rfl (ev_move rfl) ?_
          refine WL_q rfl (ev_move rfl) ?_
          refine WL_q rfl (ev_indexAddr Try.underlying23 sz3 rfl rfl rfl (by omega) (by omega)) ?_
          refine WL_s (ev_store sz3 rfl rfl rfl hBk (by simp; omega)) ?_
          rintro _ w10_4 hS10_4
          have hz10_4 := hS10_4.size
          replace hE := hE.sto hS10_4 (by omega)
          replace hRL0 := hRL0.sto hS10_4 (by omega)
          replace hRL2 := hRL2.sto hS10_4 (by omega)
          replace hA := hA.sto hS10_4 (by omega)
          replace hB1 := hB1.sto hS10_4 (by omega)
          replace hB7 := hB7.sto hS10_4 (by omega)
          replace hI24 := hI24.sto hS10_4 (by omega)
          replace hBk := hS10_4.blk
          replace hBk := iset (i := k) (by omega) hBk
          refine WL_nil ?_
          refine blockE_n ?_
          refine thenE_n ?_
          refine W_region ?_
          refine WL_q rfl (ev_add rfl rfl (by omega)) ?_
          refine WL_q rfl (ev_move rfl) ?_
          refine WL_nil ?_
          refine thenE_n ?_
          rw [cmpK_yes (by rw [getD_eq hlk]; exact hp32)] at hBk
          exact ⟨k + 1, (Subs.c rfl (Subs.c rfl (Subs.c rfl (Subs.c rfl (Subs.c rfl (Subs.c rfl (Subs.c rfl Subs.n))))))), (Subs.c (lkI rfl (by omega)) Subs.n), ⟨hRL2, ⟨by omega, hBk⟩⟩, by first | omega | (dsimp only; omega)⟩
        · have hp32 := of_decide_eq_false hg32
          refine W_skip ?_
          refine blockE_n ?_
          refine thenE_n ?_
          refine W_region ?_
          refine WL_q rfl (ev_add rfl rfl (by omega)) ?_
          refine WL_q rfl (ev_move rfl) ?_
          refine WL_nil ?_
          refine thenE_n ?_
          rw [cmpK_no (by rw [getD_eq hlk]; exact hp32)] at hBk
          exact ⟨k + 1, (Subs.c rfl (Subs.c rfl (Subs.c rfl (Subs.c rfl (Subs.c rfl (Subs.c rfl (Subs.c rfl Subs.n))))))), (Subs.c (lkI rfl (by omega)) Subs.n), ⟨hRL2, ⟨by omega, hBk⟩⟩, by first | omega | (dsimp only; omega)⟩
      · have hp27 := of_decide_eq_false hg27
        refine W_exit ?_
        refine thenE_x ?_
        refine thenE_x ?_
        refine blockE_hit ?_
        refine blockE_n ?_
        refine thenE_n ?_
        refine W_region ?_
        refine WL_q rfl (ev_add rfl rfl (by omega)) ?_
        refine WL_q rfl (ev_move rfl) ?_
        refine WL_nil ?_
        refine thenE_n ?_
        rw [cmpN_name hk hs hlt (by omega) hp21 (by omega)] at hBk
        exact ⟨i + 1, (Subs.c rfl (Subs.c rfl (Subs.c rfl Subs.n))), (Subs.c (lkI rfl (by omega)) Subs.n), ⟨hRL0, ⟨by omega, hBk⟩⟩, by first | omega | (dsimp only; omega)⟩
  · have hp15 := of_decide_eq_false hg15
    refine W_exit ?_
    refine thenE_x ?_
    refine thenE_x ?_
    refine blockE_hit ?_
    refine thenE_n ?_
    refine W_seq ?_
    refine W_region ?_
    refine WL_q rfl (ev_move rfl) ?_
    refine WL_q rfl (ev_assign rfl) ?_
    refine WL_nil ?_
    refine thenE_n ?_
    refine W_ret ?_
    refine ret1 rfl rfl ?_
    have hi9 : i = A.ends.length := by omega
    subst hi9
    rw [hcp] at hBk
    exact ⟨_, _, by rw [hpl], (by rw [hpl]; exact own_of_blk hBk (by omega) (by simp; omega) (by omega)), hE⟩

set_option maxRecDepth 100000 in
theorem sComponentsOf_spec {loA hiA : Nat} (nA : NA) (A : Net) (w : World) (hA : IsNet loA hiA w nA A) (hhiA : hiA ≤ w.heap.size) (hnA : totN A ≤ 1048576) :
    Fn Try.prog 28 #[netV nA A] w (fun o9 w' => ∃ a' c' ys q, o9 = .tuple #[.slice a' ys.length c', VB q] ∧ RV [] (opt (NOk A) (prt A.ends)) ys q ∧ Ints 0 w'.heap.size w' a' c' ys ∧ ys.length ≤ 1048576 ∧ Ext w w') := by
  have hqA := totL_len A.ends
  have hmA : totL A.ends + A.ids.length + A.inputs.length ≤ 1048576 := hnA
  have hpl := prt_len A.ends
  have hE := Ext.refl w
  refine Fn_of Try.func28 rfl rfl (by kernel_rfl) rfl ?_
  refine W_seq ?_
  refine W_region ?_
  refine WL_m rfl (ev_box rfl) ?_
  rintro _ w1 ⟨rfl, hN1⟩
  have hz1 := hN1.size
  replace hE := hE.trans hN1.ext
  replace hA := hA.ext hN1.ext
  have hB1 : Blk w1 _ _ [_, _, _] := hN1.blk
  refine WL_q rfl (ev_assign rfl) ?_
  refine WL_q rfl (ev_assign rfl) ?_
  refine WL_nil ?_
  refine thenE_n ?_
  refine W_seq ?_
  refine W_seq ?_
  refine W_region ?_
  refine WL_q rfl (ev_loads st31 sz31 rfl (cellsB hB1) rfl) ?_
  refine WL_m rfl (ev_call rfl (neGood_spec _ A _ hA (by omega) (by omega))) ?_
  rintro _ w5 ⟨b5, rfl, hb5, hE5⟩
  have hz5 := hE5.size
  replace hE := hE.trans hE5
  replace hA := hA.ext hE5
  replace hB1 := hB1.ext hE5
  refine WL_q rfl (ev_not rfl) ?_
  refine WL_nil ?_
  refine thenE_n ?_
  refine W_cond rfl (fun hg6 => ?_) (fun hg6 => ?_)
  · have hg5 := not_true hg6
    have hp5 := ttN hb5 hg5
    refine W_seq ?_
    refine W_region ?_
    refine WL_q rfl (ev_assign rfl) ?_
    refine WL_q rfl (ev_assign rfl) ?_
    refine WL_nil ?_
    refine thenE_n ?_
    refine W_ret ?_
    refine thenE_r ?_
    refine ret2 rfl rfl rfl ?_
    first | (exact ⟨none, 0, [], _, rfl, .no (fun h => hp5 h), Ints.nil, by simp, hE⟩) | (exact ⟨_, _, _, true, rfl, .yes hp5 rfl, (own_i hO8).mono (Nat.zero_le _) (Nat.le_refl _), by omega, hE⟩)
  · have hg5 := not_false hg6
    have hp5 := hb5.1 hg5
    refine W_skip ?_
    refine thenE_n ?_
    refine W_seq ?_
    refine W_region ?_
    refine WL_q rfl (ev_loads st31 sz31 rfl (cellsB hB1) rfl) ?_
    have hk := hp5.endsOk
    have hs := hp5.sym
    have hnd := hp5.nodes
    refine WL_m rfl (ev_call rfl (meParts_spec _ A _ hA (by omega) (by omega) (by assumption) (by assumption) (by omega) (by omega))) ?_
    rintro _ w8 ⟨a8, c8, rfl, hO8, hE8⟩
    have hz8 := hE8.size
    replace hE := hE.trans hE8
    replace hA := hA.ext hE8
    replace hB1 := hB1.ext hE8
    refine WL_q rfl (ev_assign rfl) ?_
    refine WL_q rfl (ev_assign rfl) ?_
    refine WL_nil ?_
    refine thenE_n ?_
    refine W_ret ?_
    refine ret2 rfl rfl rfl ?_
    first | (exact ⟨none, 0, [], _, rfl, .no (fun h => hp5 h), Ints.nil, by simp, hE⟩) | (exact ⟨_, _, _, true, rfl, .yes hp5 rfl, (own_i hO8).mono (Nat.zero_le _) (Nat.le_refl _), by omega, hE⟩)

set_option maxRecDepth 100000 in
theorem ComponentsOf_spec {loA hiA : Nat} (nA : NA) (A : Net) (w : World) (hA : IsNet loA hiA w nA A) (hhiA : hiA ≤ w.heap.size) (hnA : totN A ≤ 1048576) :
    Fn Try.prog 29 #[netV nA A] w (fun o9 w' => ∃ a' c' ys q, o9 = .tuple #[.slice a' ys.length c', VB q] ∧ RV [] (opt (NOk A) (prt A.ends)) ys q ∧ OwnH w.heap.size w'.heap.size 0 0 w' 3 1 a' ys.length c' (ys.map VI) ∧ ys.length ≤ 1048576 ∧ Ext w w') := by
  have hqA := totL_len A.ends
  have hmA : totL A.ends + A.ids.length + A.inputs.length ≤ 1048576 := hnA
  have hpl := prt_len A.ends
  have hE := Ext.refl w
  refine Fn_of Try.func29 rfl rfl (by kernel_rfl) rfl ?_
  refine W_seq ?_
  refine W_region ?_
  refine WL_m rfl (ev_box rfl) ?_
  rintro _ w1 ⟨rfl, hN1⟩
  have hz1 := hN1.size
  replace hE := hE.trans hN1.ext
  replace hA := hA.ext hN1.ext
  have hB1 : Blk w1 _ _ [_, _, _] := hN1.blk
  refine WL_q rfl (ev_assign rfl) ?_
  refine WL_q rfl (ev_assign rfl) ?_
  refine WL_nil ?_
  refine thenE_n ?_
  refine W_seq ?_
  refine W_seq ?_
  refine W_region ?_
  refine WL_q rfl (ev_loads st31 sz31 rfl (cellsB hB1) rfl) ?_
  refine WL_m rfl (ev_call rfl (IsNetwork_spec _ A _ hA (by omega) (by omega))) ?_
  rintro _ w5 ⟨b5, rfl, hb5, hE5⟩
  have hz5 := hE5.size
  replace hE := hE.trans hE5
  replace hA := hA.ext hE5
  replace hB1 := hB1.ext hE5
  refine WL_q rfl (ev_not rfl) ?_
  refine WL_nil ?_
  refine thenE_n ?_
  refine W_cond rfl (fun hg6 => ?_) (fun hg6 => ?_)
  · have hg5 := not_true hg6
    have hp5 := ttN hb5 hg5
    refine W_seq ?_
    refine W_region ?_
    refine WL_q rfl (ev_assign rfl) ?_
    refine WL_q rfl (ev_assign rfl) ?_
    refine WL_nil ?_
    refine thenE_n ?_
    refine W_ret ?_
    refine thenE_r ?_
    refine ret2 rfl rfl rfl ?_
    first | (exact ⟨none, 0, [], _, rfl, .no (fun h => hp5 h), OwnH.nil, by simp, hE⟩) | (exact ⟨_, _, _, true, rfl, .yes hp5 rfl, hO8.h.up (by omega) (Nat.le_refl _), by omega, hE⟩)
  · have hg5 := not_false hg6
    have hp5 := hb5.1 hg5
    refine W_skip ?_
    refine thenE_n ?_
    refine W_seq ?_
    refine W_region ?_
    refine WL_q rfl (ev_loads st31 sz31 rfl (cellsB hB1) rfl) ?_
    have hk := hp5.endsOk
    have hs := hp5.sym
    have hnd := hp5.nodes
    refine WL_m rfl (ev_call rfl (components_spec _ A _ hA (by omega) (by omega) (by assumption) (by assumption) (by omega) (by omega))) ?_
    rintro _ w8 ⟨a8, c8, rfl, hO8, hE8⟩
    have hz8 := hE8.size
    replace hE := hE.trans hE8
    replace hA := hA.ext hE8
    replace hB1 := hB1.ext hE8
    refine WL_q rfl (ev_assign rfl) ?_
    refine WL_q rfl (ev_assign rfl) ?_
    refine WL_nil ?_
    refine thenE_n ?_
    refine W_ret ?_
    refine ret2 rfl rfl rfl ?_
    first | (exact ⟨none, 0, [], _, rfl, .no (fun h => hp5 h), OwnH.nil, by simp, hE⟩) | (exact ⟨_, _, _, true, rfl, .yes hp5 rfl, hO8.h.up (by omega) (Nat.le_refl _), by omega, hE⟩)

set_option maxRecDepth 100000 in
theorem law_ComponentsOf (nA : NA) (A : Net) (w : World) (hA : IsNet 0 w.heap.size w nA A) (hsA : SmN A) :
    Fn Try.prog 6 #[netV nA A] w (fun v w' => v = VB true ∧ Ext w w') := by
  have hE := Ext.refl w
  refine Fn_of Try.func6 rfl rfl (by kernel_rfl) rfl ?_
  refine W_seq ?_
  refine W_region ?_
  refine WL_m rfl (ev_box rfl) ?_
  rintro _ w1 ⟨rfl, hN1⟩
  have hz1 := hN1.size
  replace hE := hE.trans hN1.ext
  replace hA := hA.ext hN1.ext
  have hB1 : Blk w1 _ _ [_, _, _] := hN1.blk
  refine WL_q rfl (ev_assign rfl) ?_
  refine WL_nil ?_
  refine thenE_n ?_
  refine W_seq ?_
  refine W_region ?_
  refine WL_q rfl (ev_assign rfl) ?_
  refine WL_nil ?_
  refine thenE_n ?_
  refine W_seq ?_
  refine W_region ?_
  refine WL_q rfl (ev_loads st25 sz25 rfl (cellsB hB1) rfl) ?_
  refine WL_q rfl (ev_move rfl) ?_
  refine WL_m rfl (ev_call rfl (szNetwork_spec _ A _ _ hA (by omega) hsA)) ?_
  rintro _ w16 ⟨r16, rfl, hE16, hr16⟩
  have hz16 := hE16.size
  replace hE := hE.trans hE16
  replace hA := hA.ext hE16
  replace hB1 := hB1.ext hE16
  refine WL_q rfl (ev_assign rfl) ?_
  refine WL_nil ?_
  refine thenE_n ?_
  refine W_seq ?_
  refine W_seq ?_
  refine W_region ?_
  refine WL_q rfl (ev_move rfl) ?_
  refine WL_q rfl (ev_lss rfl rfl) ?_
  refine WL_nil ?_
  refine thenE_n ?_
  refine W_cond rfl (fun hg18 => ?_) (fun hg18 => ?_)
  · have hp18 := of_decide_eq_true hg18
    refine W_seq ?_
    refine W_region ?_
    refine WL_q rfl (ev_assign rfl) ?_
    refine WL_nil ?_
    refine thenE_n ?_
    refine W_ret ?_
    refine thenE_r ?_
    refine ret1 rfl rfl ?_
    first | (exact ⟨rfl, hE⟩) | (exact (tfX hg18).elim) | (exact (decF hg18).elim) | (exfalso; omega)
  · have hp18 := of_decide_eq_false hg18
    refine W_skip ?_
    refine thenE_n ?_
    refine W_seq ?_
    refine W_region ?_
    refine WL_q rfl (ev_loads st25 sz25 rfl (cellsB hB1) rfl) ?_
    refine WL_m rfl (ev_call rfl (toNetwork_spec _ A _ hA (by omega) (by omega))) ?_
    rintro _ w21 ⟨h21, rfl, hF21, hE21⟩
    have hz21 := hE21.size
    replace hE := hE.trans hE21
    replace hA := hA.ext hE21
    replace hB1 := hB1.ext hE21
    have hN21 := hF21.is
    refine WL_m rfl (ev_call rfl (sComponentsOf_spec _ A _ hN21 (by omega) (by omega))) ?_
    rintro _ w22 ⟨a22, c22, y22, q22, rfl, hr22, hx22, hl22, hE22⟩
    have hz22 := hE22.size
    replace hE := hE.trans hE22
    replace hA := hA.ext hE22
    replace hB1 := hB1.ext hE22
    replace hF21 := hF21.ext hE22
    replace hN21 := hN21.ext hE22
    refine WL_q rfl (ev_move rfl) ?_
    refine WL_q rfl (ev_extract rfl rfl) ?_
    refine WL_q rfl (ev_extract rfl rfl) ?_
    refine WL_q rfl (ev_assign rfl) ?_
    refine WL_q rfl (ev_assign rfl) ?_
    refine WL_nil ?_
    refine thenE_n ?_
    refine W_seq ?_
    refine W_region ?_
    refine WL_q rfl (ev_loads st25 sz25 rfl (cellsB hB1) rfl) ?_
    refine WL_m rfl (ev_call rfl (toNetwork_spec _ A _ hA (by omega) (by omega))) ?_
    rintro _ w26 ⟨h26, rfl, hF26, hE26⟩
    have hz26 := hE26.size
    replace hE := hE.trans hE26
    replace hA := hA.ext hE26
    replace hB1 := hB1.ext hE26
    replace hF21 := hF21.ext hE26
    replace hN21 := hN21.ext hE26
    replace hx22 := hx22.ext hE26
    have hN26 := hF26.is
    refine WL_m rfl (ev_alloc zr31) ?_
    rintro _ w6 ⟨rfl, hN6⟩
    have hz6 := hN6.size
    replace hE := hE.trans hN6.ext
    replace hA := hA.ext hN6.ext
    replace hB1 := hB1.ext hN6.ext
    replace hF21 := hF21.ext hN6.ext
    replace hN21 := hN21.ext hN6.ext
    replace hx22 := hx22.ext hN6.ext
    replace hF26 := hF26.ext hN6.ext
    replace hN26 := hN26.ext hN6.ext
    have hB6 : Blk w6 _ _ [_, _, _] := hN6.blk
    refine WL_s (ev_stores sz31 rfl rfl rfl (by simp [Value.oneCell']) hB6 (by simp)) ?_
    rintro _ w6_3 hS6_3
    have hz6_3 := hS6_3.size
    replace hE := hE.sto hS6_3 (by omega)
    replace hA := hA.sto hS6_3 (by omega)
    replace hB1 := hB1.sto hS6_3 (by omega)
    replace hF21 := hF21.sto hS6_3 (by omega)
    replace hN21 := hN21.sto hS6_3 (by omega)
    replace hx22 := hx22.sto hS6_3 (by omega)
    replace hF26 := hF26.sto hS6_3 (by omega)
    replace hN26 := hN26.sto hS6_3 (by omega)
    replace hB6 : Blk w6_3 _ _ [_, _, _] := hS6_3.blk
    refine WL_nil ?_
    refine thenE_n ?_
    refine W_seq ?_
    refine W_region ?_
    refine WL_q rfl (ev_loads st31 sz31 rfl (cellsB hB6) rfl) ?_
    refine WL_m rfl (ev_call rfl (ComponentsOf_spec _ A _ hN26 (by omega) (by omega))) ?_
    rintro _ w29 ⟨a29, c29, y29, q29, rfl, hr29, hO29, hl29, hE29⟩
    have hz29 := hE29.size
    replace hE := hE.trans hE29
    replace hA := hA.ext hE29
    replace hB1 := hB1.ext hE29
    replace hF21 := hF21.ext hE29
    replace hN21 := hN21.ext hE29
    replace hx22 := hx22.ext hE29
    replace hF26 := hF26.ext hE29
    replace hN26 := hN26.ext hE29
    replace hB6 := hB6.ext hE29
    refine WL_q rfl (ev_move rfl) ?_
    refine WL_q rfl (ev_extract rfl rfl) ?_
    refine WL_q rfl (ev_extract rfl rfl) ?_
    refine WL_q rfl (ev_assign rfl) ?_
    refine WL_q rfl (ev_assign rfl) ?_
    refine WL_nil ?_
    refine thenE_n ?_
    refine W_seq ?_
    refine W_seq ?_
    refine W_region ?_
    refine WL_q rfl (ev_move rfl) ?_
    refine WL_q rfl (ev_move rfl) ?_
    refine WL_m rfl (ev_call rfl (eqIntS_spec _ _ _ _ y29 y22 _ (ownt_i hO29) hx22 (by omega))) ?_
    rintro _ w34 ⟨rfl, hE34⟩
    have hz34 := hE34.size
    replace hE := hE.trans hE34
    replace hA := hA.ext hE34
    replace hB1 := hB1.ext hE34
    replace hF21 := hF21.ext hE34
    replace hN21 := hN21.ext hE34
    replace hx22 := hx22.ext hE34
    replace hF26 := hF26.ext hE34
    replace hN26 := hN26.ext hE34
    replace hB6 := hB6.ext hE34
    replace hO29 := hO29.ext hE34
    refine WL_q rfl (ev_not rfl) ?_
    refine WL_q rfl (ev_move rfl) ?_
    refine WL_splitv (t := 36) rfl (fun hg35 => ?_) (fun hg35 => ?_)
    · have hg34 := not_true hg35
      refine WL_no rfl rfl hg35 rfl ?_
      refine WL_no rfl rfl hg35 rfl ?_
      refine WL_no rfl rfl hg35 rfl ?_
      refine WL_q rfl (ev_pick_t rfl hg35 rfl) ?_
      refine WL_nil ?_
      refine thenE_n ?_
      refine W_cond_t rfl ?_
      refine W_seq ?_
      refine W_region ?_
      refine WL_q rfl (ev_assign rfl) ?_
      refine WL_nil ?_
      refine thenE_n ?_
      refine W_ret ?_
      refine thenE_r ?_
      refine ret1 rfl rfl ?_
      first | (exact ⟨rfl, hE⟩) | (exact (bneE hg34 (hr29.det1 hr22)).elim) | (exact absurd (hr29.det1 hr22) hp34) | (exact absurd (hr29.det1 hr22) (of_decide_eq_false hg34)) | (exact (bneE hg34 (hr29.det2 hr22)).elim) | (exact absurd (hr29.det2 hr22) hp34) | (exact absurd (hr29.det2 hr22) (of_decide_eq_false hg34)) | (exact (bneE hg34 (hr29.det3 hr22)).elim) | (exact absurd (hr29.det3 hr22) hp34) | (exact absurd (hr29.det3 hr22) (of_decide_eq_false hg34)) | (exact (tfX hg34).elim) | (exact (decF hg34).elim) | (exfalso; omega)
    · have hg34 := not_false hg35
      refine WL_qg rfl rfl hg35 rfl (ev_move rfl) ?_
      refine WL_qg rfl rfl hg35 rfl (ev_move rfl) ?_
      refine WL_qg rfl rfl hg35 rfl (ev_neq_b Try.underlying4 rfl rfl) ?_
      refine WL_q rfl (ev_pick_f rfl hg35 rfl) ?_
      refine WL_nil ?_
      refine thenE_n ?_
      refine W_cond rfl (fun hg39 => ?_) (fun hg39 => ?_)
      · refine W_seq ?_
        refine W_region ?_
        refine WL_q rfl (ev_assign rfl) ?_
        refine WL_nil ?_
        refine thenE_n ?_
        refine W_ret ?_
        refine thenE_r ?_
        refine ret1 rfl rfl ?_
        first | (exact ⟨rfl, hE⟩) | (exact (bneE hg39 (hr29.det1 hr22)).elim) | (exact absurd (hr29.det1 hr22) hp39) | (exact absurd (hr29.det1 hr22) (of_decide_eq_false hg39)) | (exact (bneE hg39 (hr29.det2 hr22)).elim) | (exact absurd (hr29.det2 hr22) hp39) | (exact absurd (hr29.det2 hr22) (of_decide_eq_false hg39)) | (exact (bneE hg39 (hr29.det3 hr22)).elim) | (exact absurd (hr29.det3 hr22) hp39) | (exact absurd (hr29.det3 hr22) (of_decide_eq_false hg39)) | (exact (tfX hg39).elim) | (exact (decF hg39).elim) | (exfalso; omega)
      · refine W_skip ?_
        refine thenE_n ?_
        refine W_seq ?_
        refine W_seq ?_
        refine W_drawE [(0, true), (1, true), (2, false), (3, false), (4, true)] mixed (by kernel_rfl) rfl (by kernel_rfl) ?_
        intro wd10 hEd10 hzd10
        replace hE := hE.trans hEd10
        replace hA := hA.ext hEd10
        replace hB1 := hB1.ext hEd10
        replace hF21 := hF21.ext hEd10
        replace hN21 := hN21.ext hEd10
        replace hx22 := hx22.ext hEd10
        replace hF26 := hF26.ext hEd10
        replace hN26 := hN26.ext hEd10
        replace hB6 := hB6.ext hEd10
        replace hO29 := hO29.ext hEd10
        have hDd10 := Ext.refl wd10
        refine PW_q rfl rfl (fun wq hq => ev_loads st31 sz31 rfl (cellsB (hq.blk hB6)) rfl) ?_
        refine PW_q rfl rfl (fun wq hq => ev_loads st25 sz25 rfl (cellsB (hq.blk hB1)) rfl) ?_
        refine PW_m rfl rfl (ev_call rfl (toNetwork_spec _ A _ hA (by omega) (by omega))) ?_
        rintro _ w43 ⟨h43, rfl, hF43, hE43⟩
        have hz43 := hE43.size
        replace hE := hE.trans hE43
        replace hDd10 := hDd10.trans hE43
        have hN43 := hF43.is
        refine ⟨hDd10, ?_⟩
        have hA_3 := hA.ext hDd10
        have hB1_3 := hB1.ext hDd10
        have hF21_3 := hF21.ext hDd10
        have hN21_3 := hN21.ext hDd10
        have hx22_3 := hx22.ext hDd10
        have hF26_3 := hF26.ext hDd10
        have hN26_3 := hN26.ext hDd10
        have hB6_3 := hB6.ext hDd10
        have hO29_3 := hO29.ext hDd10
        refine PW_m rfl rfl (ev_call rfl (eqNetwork_spec _ _ A _ hN26_3 hN43 (by omega))) ?_
        rintro _ w44 ⟨rfl, hE44⟩
        have hz44 := hE44.size
        replace hE := hE.trans hE44
        replace hDd10 := hDd10.trans hE44
        replace hF43 := hF43.ext hE44
        replace hN43 := hN43.ext hE44
        refine ⟨hDd10, ?_⟩
        refine PW_q rfl rfl (fun wq hq => ev_not rfl) ?_
        replace hA := hA.ext hDd10
        replace hB1 := hB1.ext hDd10
        replace hF21 := hF21.ext hDd10
        replace hN21 := hN21.ext hDd10
        replace hx22 := hx22.ext hDd10
        replace hF26 := hF26.ext hDd10
        replace hN26 := hN26.ext hDd10
        replace hB6 := hB6.ext hDd10
        replace hO29 := hO29.ext hDd10
        refine PW_nil ?_
        refine thenE_n ?_
        refine W_cond rfl (fun hg45 => ?_) (fun hg45 => ?_)
        · have hg44 := not_true hg45
          refine W_seq ?_
          refine W_region ?_
          refine WL_q rfl (ev_assign rfl) ?_
          refine WL_nil ?_
          refine thenE_n ?_
          refine W_ret ?_
          refine thenE_r ?_
          refine ret1 rfl rfl ?_
          first | (exact ⟨rfl, hE⟩) | (exact (bneE hg44 (hr29.det1 hr22)).elim) | (exact absurd (hr29.det1 hr22) hp44) | (exact absurd (hr29.det1 hr22) (of_decide_eq_false hg44)) | (exact (bneE hg44 (hr29.det2 hr22)).elim) | (exact absurd (hr29.det2 hr22) hp44) | (exact absurd (hr29.det2 hr22) (of_decide_eq_false hg44)) | (exact (bneE hg44 (hr29.det3 hr22)).elim) | (exact absurd (hr29.det3 hr22) hp44) | (exact absurd (hr29.det3 hr22) (of_decide_eq_false hg44)) | (exact (tfX hg44).elim) | (exact (decF hg44).elim) | (exfalso; omega)
        · have hg44 := not_false hg45
          refine W_skip ?_
          refine thenE_n ?_
          refine W_seq ?_
          refine W_region ?_
          refine WL_q rfl (ev_assign rfl) ?_
          refine WL_nil ?_
          refine thenE_n ?_
          refine W_seq ?_
          refine W_region ?_
          refine WL_q rfl (ev_loads st31 sz31 rfl (cellsB hB6) rfl) ?_
          refine WL_q rfl (ev_move rfl) ?_
          refine WL_m rfl (ev_call rfl (markNetwork_spec _ A _ _ hF26 (by omega) (by omega) (by omega))) ?_
          rintro _ w48 ⟨r48, rfl, hr48, hK48⟩
          have hz48 := hK48.size
          replace hE := hE.mrk hK48 (by omega)
          replace hA := hA.mrk hK48 (by omega)
          replace hB1 := hB1.mrk hK48 (by omega)
          replace hF21 := hF21.mrk hK48 (by omega)
          replace hN21 := hN21.mrk hK48 (by omega)
          replace hx22 := hx22.mrk hK48 (by omega)
          replace hB6 := hB6.mrk hK48 (by omega)
          replace hO29 := hO29.mrk hK48 (by omega)
          replace hF43 := hF43.mrk hK48 (by omega)
          replace hN43 := hN43.mrk hK48 (by omega)
          refine WL_q rfl (ev_assign rfl) ?_
          refine WL_nil ?_
          refine thenE_n ?_
          refine W_seq ?_
          refine W_seq ?_
          refine W_region ?_
          refine WL_q rfl (ev_move rfl) ?_
          refine WL_q rfl (ev_lss rfl rfl) ?_
          refine WL_q rfl (ev_move rfl) ?_
          refine WL_splitv (t := 51) rfl (fun hg50 => ?_) (fun hg50 => ?_)
          · have hp50 := of_decide_eq_true hg50
            refine WL_no rfl rfl hg50 rfl ?_
            refine WL_no rfl rfl hg50 rfl ?_
            refine WL_no rfl rfl hg50 rfl ?_
            refine WL_no rfl rfl hg50 rfl ?_
            refine WL_q rfl (ev_pick_t rfl hg50 rfl) ?_
            refine WL_q rfl (ev_move rfl) ?_
            refine WL_no rfl rfl rfl rfl ?_
            refine WL_no rfl rfl rfl rfl ?_
            refine WL_no rfl rfl rfl rfl ?_
            refine WL_q rfl (ev_pick_t rfl rfl rfl) ?_
            refine WL_nil ?_
            refine thenE_n ?_
            refine W_cond_t rfl ?_
            refine W_seq ?_
            refine W_region ?_
            refine WL_q rfl (ev_assign rfl) ?_
            refine WL_nil ?_
            refine thenE_n ?_
            refine W_ret ?_
            refine thenE_r ?_
            refine ret1 rfl rfl ?_
            first | (exact ⟨rfl, hE⟩) | (exact (bneE hg50 (hr29.det1 hr22)).elim) | (exact absurd (hr29.det1 hr22) hp50) | (exact absurd (hr29.det1 hr22) (of_decide_eq_false hg50)) | (exact (bneE hg50 (hr29.det2 hr22)).elim) | (exact absurd (hr29.det2 hr22) hp50) | (exact absurd (hr29.det2 hr22) (of_decide_eq_false hg50)) | (exact (bneE hg50 (hr29.det3 hr22)).elim) | (exact absurd (hr29.det3 hr22) hp50) | (exact absurd (hr29.det3 hr22) (of_decide_eq_false hg50)) | (exact (tfX hg50).elim) | (exact (decF hg50).elim) | (exfalso; omega)
          · have hp50 := of_decide_eq_false hg50
            refine WL_qg rfl rfl hg50 rfl (ev_move rfl) ?_
            refine WL_qg rfl rfl hg50 rfl (ev_move rfl) ?_
            refine WL_mg rfl rfl hg50 rfl (ev_call rfl (eqIntS_spec _ _ _ _ y29 y22 _ (ownt_i hO29) hx22 (by omega))) ?_
            rintro _ w54 ⟨rfl, hE54⟩
            have hz54 := hE54.size
            replace hE := hE.trans hE54
            replace hA := hA.ext hE54
            replace hB1 := hB1.ext hE54
            replace hF21 := hF21.ext hE54
            replace hN21 := hN21.ext hE54
            replace hx22 := hx22.ext hE54
            replace hB6 := hB6.ext hE54
            replace hO29 := hO29.ext hE54
            replace hF43 := hF43.ext hE54
            replace hN43 := hN43.ext hE54
            refine WL_qg rfl rfl hg50 rfl (ev_not rfl) ?_
            refine WL_q rfl (ev_pick_f rfl hg50 rfl) ?_
            refine WL_q rfl (ev_move rfl) ?_
            refine WL_splitv (t := 57) rfl (fun hg55 => ?_) (fun hg55 => ?_)
            · have hg54 := not_true hg55
              refine WL_no rfl rfl hg55 rfl ?_
              refine WL_no rfl rfl hg55 rfl ?_
              refine WL_no rfl rfl hg55 rfl ?_
              refine WL_q rfl (ev_pick_t rfl hg55 rfl) ?_
              refine WL_nil ?_
              refine thenE_n ?_
              refine W_cond_t rfl ?_
              refine W_seq ?_
              refine W_region ?_
              refine WL_q rfl (ev_assign rfl) ?_
              refine WL_nil ?_
              refine thenE_n ?_
              refine W_ret ?_
              refine thenE_r ?_
              refine ret1 rfl rfl ?_
              first | (exact ⟨rfl, hE⟩) | (exact (bneE hg54 (hr29.det1 hr22)).elim) | (exact absurd (hr29.det1 hr22) hp54) | (exact absurd (hr29.det1 hr22) (of_decide_eq_false hg54)) | (exact (bneE hg54 (hr29.det2 hr22)).elim) | (exact absurd (hr29.det2 hr22) hp54) | (exact absurd (hr29.det2 hr22) (of_decide_eq_false hg54)) | (exact (bneE hg54 (hr29.det3 hr22)).elim) | (exact absurd (hr29.det3 hr22) hp54) | (exact absurd (hr29.det3 hr22) (of_decide_eq_false hg54)) | (exact (tfX hg54).elim) | (exact (decF hg54).elim) | (exfalso; omega)
            · have hg54 := not_false hg55
              refine WL_qg rfl rfl hg55 rfl (ev_move rfl) ?_
              refine WL_qg rfl rfl hg55 rfl (ev_move rfl) ?_
              refine WL_qg rfl rfl hg55 rfl (ev_neq_b Try.underlying4 rfl rfl) ?_
              refine WL_q rfl (ev_pick_f rfl hg55 rfl) ?_
              refine WL_nil ?_
              refine thenE_n ?_
              refine W_cond rfl (fun hg60 => ?_) (fun hg60 => ?_)
              · refine W_seq ?_
                refine W_region ?_
                refine WL_q rfl (ev_assign rfl) ?_
                refine WL_nil ?_
                refine thenE_n ?_
                refine W_ret ?_
                refine thenE_r ?_
                refine ret1 rfl rfl ?_
                first | (exact ⟨rfl, hE⟩) | (exact (bneE hg60 (hr29.det1 hr22)).elim) | (exact absurd (hr29.det1 hr22) hp60) | (exact absurd (hr29.det1 hr22) (of_decide_eq_false hg60)) | (exact (bneE hg60 (hr29.det2 hr22)).elim) | (exact absurd (hr29.det2 hr22) hp60) | (exact absurd (hr29.det2 hr22) (of_decide_eq_false hg60)) | (exact (bneE hg60 (hr29.det3 hr22)).elim) | (exact absurd (hr29.det3 hr22) hp60) | (exact absurd (hr29.det3 hr22) (of_decide_eq_false hg60)) | (exact (tfX hg60).elim) | (exact (decF hg60).elim) | (exfalso; omega)
              · refine W_skip ?_
                refine thenE_n ?_
                refine W_seq ?_
                refine W_region ?_
                refine WL_q rfl (ev_assign rfl) ?_
                refine WL_nil ?_
                refine thenE_n ?_
                refine W_seq ?_
                refine W_region ?_
                refine WL_q rfl (ev_move rfl) ?_
                refine WL_q rfl (ev_move rfl) ?_
                refine WL_m rfl (ev_call rfl (markIntS_ownH hO29 (by omega) (by omega))) ?_
                rintro _ w64 ⟨rfl, hO64, hK64⟩
                have hz64 := hK64.size
                have hR64 := hK64
                replace hE := hE.rg hR64 (by omega)
                replace hA := hA.rg hR64 (by omega)
                replace hB1 := hB1.rg hR64 (by omega)
                replace hF21 := hF21.rg hR64 (by omega)
                replace hN21 := hN21.rg hR64 (by omega)
                replace hx22 := hx22.rg hR64 (by omega)
                replace hB6 := hB6.rg hR64 (by omega)
                replace hF43 := hF43.rg hR64 (by omega)
                replace hN43 := hN43.rg hR64 (by omega)
                replace hO29 := hO64
                refine WL_q rfl (ev_assign rfl) ?_
                refine WL_nil ?_
                refine thenE_n ?_
                refine W_seq ?_
                refine W_region ?_
                refine WL_q rfl (ev_assign rfl) ?_
                refine WL_nil ?_
                refine thenE_n ?_
                refine W_seq ?_
                refine W_region ?_
                refine WL_q rfl (ev_move rfl) ?_
                refine WL_q rfl (ev_move rfl) ?_
                refine WL_m rfl (ev_call rfl (heldIntS_spec _ _ (nums 1 y29.length) _ _ (Ints.of_own (nums_len _ _) hO29.1) rfl (by omega) (by omega))) ?_
                rintro _ w67 ⟨rfl, hE67⟩
                have hz67 := hE67.size
                replace hE := hE.trans hE67
                replace hA := hA.ext hE67
                replace hB1 := hB1.ext hE67
                replace hF21 := hF21.ext hE67
                replace hN21 := hN21.ext hE67
                replace hx22 := hx22.ext hE67
                replace hB6 := hB6.ext hE67
                replace hO29 := hO29.ext hE67
                replace hF43 := hF43.ext hE67
                replace hN43 := hN43.ext hE67
                refine WL_q rfl (ev_assign rfl) ?_
                refine WL_nil ?_
                refine thenE_n ?_
                refine W_seq ?_
                refine W_seq ?_
                refine W_region ?_
                refine WL_q rfl (ev_move rfl) ?_
                refine WL_q rfl (ev_lss rfl rfl) ?_
                refine WL_nil ?_
                refine thenE_n ?_
                refine W_cond rfl (fun hg69 => ?_) (fun hg69 => ?_)
                · have hp69 := of_decide_eq_true hg69
                  refine W_seq ?_
                  refine W_region ?_
                  refine WL_q rfl (ev_assign rfl) ?_
                  refine WL_nil ?_
                  refine thenE_n ?_
                  refine W_ret ?_
                  refine thenE_r ?_
                  refine ret1 rfl rfl ?_
                  first | (exact ⟨rfl, hE⟩) | (exact (bneE hg69 (hr29.det1 hr22)).elim) | (exact absurd (hr29.det1 hr22) hp69) | (exact absurd (hr29.det1 hr22) (of_decide_eq_false hg69)) | (exact (bneE hg69 (hr29.det2 hr22)).elim) | (exact absurd (hr29.det2 hr22) hp69) | (exact absurd (hr29.det2 hr22) (of_decide_eq_false hg69)) | (exact (bneE hg69 (hr29.det3 hr22)).elim) | (exact absurd (hr29.det3 hr22) hp69) | (exact absurd (hr29.det3 hr22) (of_decide_eq_false hg69)) | (exact (tfX hg69).elim) | (exact (decF hg69).elim) | (exfalso; omega)
                · have hp69 := of_decide_eq_false hg69
                  refine W_skip ?_
                  refine thenE_n ?_
                  refine W_seq ?_
                  refine W_seq ?_
                  refine W_region ?_
                  refine WL_q rfl (ev_move rfl) ?_
                  refine WL_q rfl (ev_move rfl) ?_
                  refine WL_q rfl (ev_neq rfl rfl) ?_
                  refine WL_nil ?_
                  refine thenE_n ?_
                  refine W_cond rfl (fun hg72 => ?_) (fun hg72 => ?_)
                  · have hp72 := of_decide_eq_true hg72
                    refine W_seq ?_
                    refine W_region ?_
                    refine WL_q rfl (ev_assign rfl) ?_
                    refine WL_nil ?_
                    refine thenE_n ?_
                    refine W_ret ?_
                    refine thenE_r ?_
                    refine ret1 rfl rfl ?_
                    first | (exact ⟨rfl, hE⟩) | (exact (bneE hg72 (hr29.det1 hr22)).elim) | (exact absurd (hr29.det1 hr22) hp72) | (exact absurd (hr29.det1 hr22) (of_decide_eq_false hg72)) | (exact (bneE hg72 (hr29.det2 hr22)).elim) | (exact absurd (hr29.det2 hr22) hp72) | (exact absurd (hr29.det2 hr22) (of_decide_eq_false hg72)) | (exact (bneE hg72 (hr29.det3 hr22)).elim) | (exact absurd (hr29.det3 hr22) hp72) | (exact absurd (hr29.det3 hr22) (of_decide_eq_false hg72)) | (exact (tfX hg72).elim) | (exact (decF hg72).elim) | (exfalso; omega)
                  · have hp72 := of_decide_eq_false hg72
                    refine W_skip ?_
                    refine thenE_n ?_
                    refine W_seq ?_
                    refine W_region ?_
                    refine WL_q rfl (ev_loads st25 sz25 rfl (cellsB hB1) rfl) ?_
                    refine WL_m rfl (ev_call rfl (toNetwork_spec _ A _ hA (by omega) (by omega))) ?_
                    rintro _ w75 ⟨h75, rfl, hF75, hE75⟩
                    have hz75 := hE75.size
                    replace hE := hE.trans hE75
                    replace hA := hA.ext hE75
                    replace hB1 := hB1.ext hE75
                    replace hF21 := hF21.ext hE75
                    replace hN21 := hN21.ext hE75
                    replace hx22 := hx22.ext hE75
                    replace hB6 := hB6.ext hE75
                    replace hO29 := hO29.ext hE75
                    replace hF43 := hF43.ext hE75
                    replace hN43 := hN43.ext hE75
                    have hN75 := hF75.is
                    refine WL_m rfl (ev_call rfl (ComponentsOf_spec _ A _ hN75 (by omega) (by omega))) ?_
                    rintro _ w76 ⟨a76, c76, y76, q76, rfl, hr76, hO76, hl76, hE76⟩
                    have hz76 := hE76.size
                    replace hE := hE.trans hE76
                    replace hA := hA.ext hE76
                    replace hB1 := hB1.ext hE76
                    replace hF21 := hF21.ext hE76
                    replace hN21 := hN21.ext hE76
                    replace hx22 := hx22.ext hE76
                    replace hB6 := hB6.ext hE76
                    replace hO29 := hO29.ext hE76
                    replace hF43 := hF43.ext hE76
                    replace hN43 := hN43.ext hE76
                    replace hF75 := hF75.ext hE76
                    replace hN75 := hN75.ext hE76
                    refine WL_q rfl (ev_move rfl) ?_
                    refine WL_q rfl (ev_extract rfl rfl) ?_
                    refine WL_q rfl (ev_extract rfl rfl) ?_
                    refine WL_q rfl (ev_assign rfl) ?_
                    refine WL_q rfl (ev_assign rfl) ?_
                    refine WL_nil ?_
                    refine thenE_n ?_
                    refine W_seq ?_
                    refine W_seq ?_
                    refine W_region ?_
                    refine WL_q rfl (ev_move rfl) ?_
                    refine WL_q rfl (ev_move rfl) ?_
                    refine WL_m rfl (ev_call rfl (eqIntS_spec _ _ _ _ y76 y22 _ (ownt_i hO76) hx22 (by omega))) ?_
                    rintro _ w81 ⟨rfl, hE81⟩
                    have hz81 := hE81.size
                    replace hE := hE.trans hE81
                    replace hA := hA.ext hE81
                    replace hB1 := hB1.ext hE81
                    replace hF21 := hF21.ext hE81
                    replace hN21 := hN21.ext hE81
                    replace hx22 := hx22.ext hE81
                    replace hB6 := hB6.ext hE81
                    replace hO29 := hO29.ext hE81
                    replace hF43 := hF43.ext hE81
                    replace hN43 := hN43.ext hE81
                    replace hF75 := hF75.ext hE81
                    replace hN75 := hN75.ext hE81
                    replace hO76 := hO76.ext hE81
                    refine WL_q rfl (ev_not rfl) ?_
                    refine WL_q rfl (ev_move rfl) ?_
                    refine WL_splitv (t := 83) rfl (fun hg82 => ?_) (fun hg82 => ?_)
                    · have hg81 := not_true hg82
                      refine WL_no rfl rfl hg82 rfl ?_
                      refine WL_no rfl rfl hg82 rfl ?_
                      refine WL_no rfl rfl hg82 rfl ?_
                      refine WL_q rfl (ev_pick_t rfl hg82 rfl) ?_
                      refine WL_nil ?_
                      refine thenE_n ?_
                      refine W_cond_t rfl ?_
                      refine W_seq ?_
                      refine W_region ?_
                      refine WL_q rfl (ev_assign rfl) ?_
                      refine WL_nil ?_
                      refine thenE_n ?_
                      refine W_ret ?_
                      refine thenE_r ?_
                      refine ret1 rfl rfl ?_
                      first | (exact ⟨rfl, hE⟩) | (exact (bneE hg81 (hr76.det1 hr22)).elim) | (exact absurd (hr76.det1 hr22) hp81) | (exact absurd (hr76.det1 hr22) (of_decide_eq_false hg81)) | (exact (bneE hg81 (hr76.det2 hr22)).elim) | (exact absurd (hr76.det2 hr22) hp81) | (exact absurd (hr76.det2 hr22) (of_decide_eq_false hg81)) | (exact (bneE hg81 (hr76.det3 hr22)).elim) | (exact absurd (hr76.det3 hr22) hp81) | (exact absurd (hr76.det3 hr22) (of_decide_eq_false hg81)) | (exact (bneE hg81 (hr29.det1 hr22)).elim) | (exact absurd (hr29.det1 hr22) hp81) | (exact absurd (hr29.det1 hr22) (of_decide_eq_false hg81)) | (exact (bneE hg81 (hr29.det2 hr22)).elim) | (exact absurd (hr29.det2 hr22) hp81) | (exact absurd (hr29.det2 hr22) (of_decide_eq_false hg81)) | (exact (bneE hg81 (hr29.det3 hr22)).elim) | (exact absurd (hr29.det3 hr22) hp81) | (exact absurd (hr29.det3 hr22) (of_decide_eq_false hg81)) | (exact (tfX hg81).elim) | (exact (decF hg81).elim) | (exfalso; omega)
                    · have hg81 := not_false hg82
                      refine WL_qg rfl rfl hg82 rfl (ev_move rfl) ?_
                      refine WL_qg rfl rfl hg82 rfl (ev_move rfl) ?_
                      refine WL_qg rfl rfl hg82 rfl (ev_neq_b Try.underlying4 rfl rfl) ?_
                      refine WL_q rfl (ev_pick_f rfl hg82 rfl) ?_
                      refine WL_nil ?_
                      refine thenE_n ?_
                      refine W_cond rfl (fun hg86 => ?_) (fun hg86 => ?_)
                      · refine W_seq ?_
                        refine W_region ?_
                        refine WL_q rfl (ev_assign rfl) ?_
                        refine WL_nil ?_
                        refine thenE_n ?_
                        refine W_ret ?_
                        refine thenE_r ?_
                        refine ret1 rfl rfl ?_
                        first | (exact ⟨rfl, hE⟩) | (exact (bneE hg86 (hr76.det1 hr22)).elim) | (exact absurd (hr76.det1 hr22) hp86) | (exact absurd (hr76.det1 hr22) (of_decide_eq_false hg86)) | (exact (bneE hg86 (hr76.det2 hr22)).elim) | (exact absurd (hr76.det2 hr22) hp86) | (exact absurd (hr76.det2 hr22) (of_decide_eq_false hg86)) | (exact (bneE hg86 (hr76.det3 hr22)).elim) | (exact absurd (hr76.det3 hr22) hp86) | (exact absurd (hr76.det3 hr22) (of_decide_eq_false hg86)) | (exact (bneE hg86 (hr29.det1 hr22)).elim) | (exact absurd (hr29.det1 hr22) hp86) | (exact absurd (hr29.det1 hr22) (of_decide_eq_false hg86)) | (exact (bneE hg86 (hr29.det2 hr22)).elim) | (exact absurd (hr29.det2 hr22) hp86) | (exact absurd (hr29.det2 hr22) (of_decide_eq_false hg86)) | (exact (bneE hg86 (hr29.det3 hr22)).elim) | (exact absurd (hr29.det3 hr22) hp86) | (exact absurd (hr29.det3 hr22) (of_decide_eq_false hg86)) | (exact (tfX hg86).elim) | (exact (decF hg86).elim) | (exfalso; omega)
                      · refine W_skip ?_
                        refine thenE_n ?_
                        refine W_seq ?_
                        refine W_region ?_
                        refine WL_q rfl (ev_assign rfl) ?_
                        refine WL_nil ?_
                        refine thenE_n ?_
                        refine W_seq ?_
                        refine W_region ?_
                        refine WL_q rfl (ev_move rfl) ?_
                        refine WL_q rfl (ev_move rfl) ?_
                        refine WL_m rfl (ev_call rfl (heldIntS_spec _ _ (nums 1 y29.length) _ _ (Ints.of_own (nums_len _ _) hO29.1) rfl (by omega) (by omega))) ?_
                        rintro _ w90 ⟨rfl, hE90⟩
                        have hz90 := hE90.size
                        replace hE := hE.trans hE90
                        replace hA := hA.ext hE90
                        replace hB1 := hB1.ext hE90
                        replace hF21 := hF21.ext hE90
                        replace hN21 := hN21.ext hE90
                        replace hx22 := hx22.ext hE90
                        replace hB6 := hB6.ext hE90
                        replace hO29 := hO29.ext hE90
                        replace hF43 := hF43.ext hE90
                        replace hN43 := hN43.ext hE90
                        replace hF75 := hF75.ext hE90
                        replace hN75 := hN75.ext hE90
                        replace hO76 := hO76.ext hE90
                        refine WL_q rfl (ev_assign rfl) ?_
                        refine WL_nil ?_
                        refine thenE_n ?_
                        refine W_seq ?_
                        refine W_seq ?_
                        refine W_region ?_
                        refine WL_q rfl (ev_move rfl) ?_
                        refine WL_q rfl (ev_lss rfl rfl) ?_
                        refine WL_nil ?_
                        refine thenE_n ?_
                        refine W_cond rfl (fun hg92 => ?_) (fun hg92 => ?_)
                        · have hp92 := of_decide_eq_true hg92
                          refine W_seq ?_
                          refine W_region ?_
                          refine WL_q rfl (ev_assign rfl) ?_
                          refine WL_nil ?_
                          refine thenE_n ?_
                          refine W_ret ?_
                          refine thenE_r ?_
                          refine ret1 rfl rfl ?_
                          first | (exact ⟨rfl, hE⟩) | (exact (bneE hg92 (hr76.det1 hr22)).elim) | (exact absurd (hr76.det1 hr22) hp92) | (exact absurd (hr76.det1 hr22) (of_decide_eq_false hg92)) | (exact (bneE hg92 (hr76.det2 hr22)).elim) | (exact absurd (hr76.det2 hr22) hp92) | (exact absurd (hr76.det2 hr22) (of_decide_eq_false hg92)) | (exact (bneE hg92 (hr76.det3 hr22)).elim) | (exact absurd (hr76.det3 hr22) hp92) | (exact absurd (hr76.det3 hr22) (of_decide_eq_false hg92)) | (exact (bneE hg92 (hr29.det1 hr22)).elim) | (exact absurd (hr29.det1 hr22) hp92) | (exact absurd (hr29.det1 hr22) (of_decide_eq_false hg92)) | (exact (bneE hg92 (hr29.det2 hr22)).elim) | (exact absurd (hr29.det2 hr22) hp92) | (exact absurd (hr29.det2 hr22) (of_decide_eq_false hg92)) | (exact (bneE hg92 (hr29.det3 hr22)).elim) | (exact absurd (hr29.det3 hr22) hp92) | (exact absurd (hr29.det3 hr22) (of_decide_eq_false hg92)) | (exact (tfX hg92).elim) | (exact (decF hg92).elim) | (exfalso; omega)
                        · have hp92 := of_decide_eq_false hg92
                          refine W_skip ?_
                          refine thenE_n ?_
                          refine W_seq ?_
                          refine W_seq ?_
                          refine W_region ?_
                          refine WL_q rfl (ev_move rfl) ?_
                          refine WL_q rfl (ev_move rfl) ?_
                          refine WL_q rfl (ev_neq rfl rfl) ?_
                          refine WL_nil ?_
                          refine thenE_n ?_
                          refine W_cond rfl (fun hg95 => ?_) (fun hg95 => ?_)
                          · have hp95 := of_decide_eq_true hg95
                            refine W_seq ?_
                            refine W_region ?_
                            refine WL_q rfl (ev_assign rfl) ?_
                            refine WL_nil ?_
                            refine thenE_n ?_
                            refine W_ret ?_
                            refine thenE_r ?_
                            refine ret1 rfl rfl ?_
                            first | (exact ⟨rfl, hE⟩) | (exact (bneE hg95 (hr76.det1 hr22)).elim) | (exact absurd (hr76.det1 hr22) hp95) | (exact absurd (hr76.det1 hr22) (of_decide_eq_false hg95)) | (exact (bneE hg95 (hr76.det2 hr22)).elim) | (exact absurd (hr76.det2 hr22) hp95) | (exact absurd (hr76.det2 hr22) (of_decide_eq_false hg95)) | (exact (bneE hg95 (hr76.det3 hr22)).elim) | (exact absurd (hr76.det3 hr22) hp95) | (exact absurd (hr76.det3 hr22) (of_decide_eq_false hg95)) | (exact (bneE hg95 (hr29.det1 hr22)).elim) | (exact absurd (hr29.det1 hr22) hp95) | (exact absurd (hr29.det1 hr22) (of_decide_eq_false hg95)) | (exact (bneE hg95 (hr29.det2 hr22)).elim) | (exact absurd (hr29.det2 hr22) hp95) | (exact absurd (hr29.det2 hr22) (of_decide_eq_false hg95)) | (exact (bneE hg95 (hr29.det3 hr22)).elim) | (exact absurd (hr29.det3 hr22) hp95) | (exact absurd (hr29.det3 hr22) (of_decide_eq_false hg95)) | (exact (tfX hg95).elim) | (exact (decF hg95).elim) | (exfalso; omega)
                          · have hp95 := of_decide_eq_false hg95
                            refine W_skip ?_
                            refine thenE_n ?_
                            refine W_seq ?_
                            refine W_region ?_
                            refine WL_q rfl (ev_assign rfl) ?_
                            refine WL_nil ?_
                            refine thenE_n ?_
                            refine W_ret ?_
                            refine ret1 rfl rfl ?_
                            first | (exact ⟨rfl, hE⟩) | (exact (bneE hg95 (hr76.det1 hr22)).elim) | (exact absurd (hr76.det1 hr22) hp95) | (exact absurd (hr76.det1 hr22) (of_decide_eq_false hg95)) | (exact (bneE hg95 (hr76.det2 hr22)).elim) | (exact absurd (hr76.det2 hr22) hp95) | (exact absurd (hr76.det2 hr22) (of_decide_eq_false hg95)) | (exact (bneE hg95 (hr76.det3 hr22)).elim) | (exact absurd (hr76.det3 hr22) hp95) | (exact absurd (hr76.det3 hr22) (of_decide_eq_false hg95)) | (exact (bneE hg95 (hr29.det1 hr22)).elim) | (exact absurd (hr29.det1 hr22) hp95) | (exact absurd (hr29.det1 hr22) (of_decide_eq_false hg95)) | (exact (bneE hg95 (hr29.det2 hr22)).elim) | (exact absurd (hr29.det2 hr22) hp95) | (exact absurd (hr29.det2 hr22) (of_decide_eq_false hg95)) | (exact (bneE hg95 (hr29.det3 hr22)).elim) | (exact absurd (hr29.det3 hr22) hp95) | (exact absurd (hr29.det3 hr22) (of_decide_eq_false hg95)) | (exact (tfX hg95).elim) | (exact (decF hg95).elim) | (exfalso; omega)

set_option maxRecDepth 100000 in
theorem Min_spec {lo hi : Nat} (a : Option Addr) (c : Nat) (xs : List Int) (w : World) (hx : Ints lo hi w a c xs) (hm : xs.length ≤ 1048576) (h0 : 0 < xs.length) :
    Fn Try.prog 71 #[.slice a xs.length c] w (fun v w' => v = VI (lmin xs) ∧ Ext w w') := by
  have hE := Ext.refl w
  refine Fn_of Try.func71 rfl rfl (by kernel_rfl) rfl ?_
  refine W_seq ?_
  refine W_region ?_
  refine WL_q rfl (ev_assign rfl) ?_
  refine WL_nil ?_
  refine thenE_n ?_
  refine W_seq ?_
  refine W_seq ?_
  refine W_region ?_
  refine WL_q rfl (ev_move rfl) ?_
  refine WL_q rfl (ev_len Try.underlying23 rfl) ?_
  refine WL_q rfl (ev_lss rfl rfl) ?_
  refine WL_nil ?_
  refine thenE_n ?_
  refine W_cond rfl (fun hg7 => ?_) (fun hg7 => ?_)
  · have hp7 := of_decide_eq_true hg7
    omega
  · have hp7 := of_decide_eq_false hg7
    refine W_skip ?_
    refine thenE_n ?_
    refine W_seq ?_
    refine W_region ?_
    refine WL_q rfl (ev_move rfl) ?_
    refine WL_q rfl (ev_indexAddr Try.underlying23 sz3 rfl rfl (hx.isSome (by omega)) (by omega) (by omega)) ?_
    refine WL_q rfl (ev_load one3 rfl (hx.cell (i := 0) (by omega))) ?_
    refine WL_q rfl (ev_assign rfl) ?_
    refine WL_nil ?_
    refine thenE_n ?_
    refine W_seq ?_
    refine W_seq ?_
    refine W_region ?_
    refine WL_q rfl (ev_assign rfl) ?_
    refine WL_nil ?_
    refine thenE_n ?_
    refine W_block ?_
    refine W_loopC (G := Nat) [(0, _)] ((Subs.c rfl Subs.n)) (fun i => [(3, VI (lmin (xs.take i))), (4, VI (i : Int))]) (fun i w' => Ext w w' ∧ 1 ≤ i ∧ i ≤ xs.length) (fun i => xs.length - i) 1 ((Subs.c (lkI rfl (lmin_one h0)) (Subs.c rfl Subs.n))) (⟨Ext.refl _, ⟨by omega, by omega⟩⟩) ?_
    rintro i wL0 ⟨hRL0, hi1, hi2⟩
    have hzL0 := hRL0.size
    replace hE := hE.trans hRL0
    replace hx := hx.ext hRL0
    refine W_seq ?_
    refine W_seq ?_
    refine W_region ?_
    refine WL_q rfl (ev_move rfl) ?_
    refine WL_q rfl (ev_move rfl) ?_
    refine WL_q rfl (ev_len Try.underlying23 rfl) ?_
    refine WL_q rfl (ev_lss rfl rfl) ?_
    refine WL_nil ?_
    refine thenE_n ?_
    refine W_cond rfl (fun hg15 => ?_) (fun hg15 => ?_)
    · have hp15 := of_decide_eq_true hg15
      refine W_skip ?_
      refine thenE_n ?_
      refine W_seq ?_
      refine W_block ?_
      refine W_region ?_
      refine WL_q rfl (ev_move rfl) ?_
      refine WL_q rfl (ev_move rfl) ?_
      refine WL_q rfl (ev_move rfl) ?_
      refine WL_q rfl (ev_indexAddr Try.underlying23 sz3 rfl rfl (hx.isSome (by omega)) (by omega) (by omega)) ?_
      refine WL_q rfl (ev_load one3 rfl (hx.cell (i := i) (by omega))) ?_
      refine WL_q rfl (ev_min rfl rfl) ?_
      refine WL_q rfl (ev_assign rfl) ?_
      refine WL_nil ?_
      refine blockE_n ?_
      refine thenE_n ?_
      refine W_region ?_
      refine WL_q rfl (ev_move rfl) ?_
      refine WL_q rfl (ev_add rfl rfl (by omega)) ?_
      refine WL_q rfl (ev_assign rfl) ?_
      refine WL_nil ?_
      refine thenE_n ?_
      exact ⟨i + 1, (Subs.c rfl Subs.n), (Subs.c (lkI rfl (lmin_take (by omega) (by omega))) (Subs.c (lkI rfl (by omega)) Subs.n)), ⟨hRL0, ⟨by omega, by omega⟩⟩, by first | omega | (dsimp only; omega)⟩
    · have hp15 := of_decide_eq_false hg15
      refine W_exit ?_
      refine thenE_x ?_
      refine thenE_x ?_
      refine blockE_hit ?_
      refine thenE_n ?_
      refine W_seq ?_
      refine W_region ?_
      refine WL_q rfl (ev_move rfl) ?_
      refine WL_q rfl (ev_assign rfl) ?_
      refine WL_nil ?_
      refine thenE_n ?_
      refine W_ret ?_
      refine ret1 rfl rfl ?_
      have hi9 : i = xs.length := by omega
      subst hi9; exact ⟨vi (by rw [List.take_length]), hE⟩

theorem Min_len {lo hi n : Nat} {a : Option Addr} {c : Nat} {xs : List Int} {w : World} (hl : n = xs.length) (hx : Ints lo hi w a c xs) (hm : xs.length ≤ 1048576) (h0 : 0 < n) :
    Fn Try.prog 71 #[.slice a n c] w (fun v w' => v = VI (lmin xs) ∧ Ext w w') := by subst hl; exact Min_spec _ _ _ _ hx hm h0

def cen (A : Net) : List Int := cenN (eccM A) (lmin (eccM A)) A.ends.length
theorem eccM_le {A : Net} (hk : EndsOk A.ends) (h40 : A.ends.length ≤ 40) {v : Nat} (h : v < (eccM A).length) : 0 ≤ (eccM A)[v] ∧ (eccM A)[v] ≤ 40 := by
  have hv : v < A.ends.length := by rw [eccM_len] at h; exact h
  simp only [eccM, List.getElem_map, List.getElem_range]
  exact mmax_rng (m := 40) (by omega) (fun d hd => by have := bfs_rng hk (v := (v : Int)) (by omega) (by simpa using hv) d hd; omega)
theorem ecc_at {A : Net} {v : Nat} (h : v < (eccM A).length) : mmax (bfs A.ends (v : Int)) = (eccM A)[v] := by simp [eccM]
theorem eccL_at {A : Net} {v : Nat} (h : v < (eccL A).length) : lmax (bfs A.ends (v : Int)) = (eccL A)[v] := by simp [eccL]
theorem cen_eq {A : Net} (hk : EndsOk A.ends) (h40 : A.ends.length ≤ 40) (h0 : 0 < A.ends.length) : cenN (eccM A) (mnN 40 (eccM A) A.ends.length) A.ends.length = cen A := by
  have hl := eccM_len A
  have h1 := mnN_all (b := 40) (E := eccM A) (by omega) (eccM_le hk h40 (by omega)).2
  rw [hl] at h1
  rw [h1]; rfl
theorem cen_len (A : Net) : (cen A).length ≤ A.ends.length := cenN_len _ _ _

set_option maxHeartbeats 4000000 in
set_option maxRecDepth 100000 in
theorem CentresOf_spec {loA hiA : Nat} (nA : NA) (A : Net) (w : World) (hA : IsNet loA hiA w nA A) (hhiA : hiA ≤ w.heap.size) (hnA : totN A ≤ 1048576) :
    Fn Try.prog 31 #[netV nA A] w (fun o9 w' => ∃ a' c' ys q, o9 = .tuple #[.slice a' ys.length c', VB q] ∧ RV [] (opt (NOk A ∧ Conn A) (cen A)) ys q ∧ OwnH w.heap.size w'.heap.size 0 0 w' 3 1 a' ys.length c' (ys.map VI) ∧ ys.length ≤ 1048576 ∧ Ext w w') := by
  have hqA := totL_len A.ends
  have hmA : totL A.ends + A.ids.length + A.inputs.length ≤ 1048576 := hnA
  have hel := eccM_len A
  have hel2 := eccL_len A
  have hec := cen_len A
  have hE := Ext.refl w
  refine Fn_of Try.func31 rfl rfl (by kernel_rfl) rfl ?_
  refine W_seq ?_
  refine W_region ?_
  refine WL_m rfl (ev_box rfl) ?_
  rintro _ w1 ⟨rfl, hN1⟩
  have hz1 := hN1.size
  replace hE := hE.trans hN1.ext
  replace hA := hA.ext hN1.ext
  have hB1 : Blk w1 _ _ [_, _, _] := hN1.blk
  refine WL_q rfl (ev_assign rfl) ?_
  refine WL_q rfl (ev_assign rfl) ?_
  refine WL_nil ?_
  refine thenE_n ?_
  refine W_seq ?_
  refine W_seq ?_
  refine W_region ?_
  refine WL_q rfl (ev_loads st31 sz31 rfl (cellsB hB1) rfl) ?_
  refine WL_m rfl (ev_call rfl (IsNetwork_spec _ A _ hA (by omega) (by omega))) ?_
  rintro _ w9 ⟨b9, rfl, hb9, hE9⟩
  have hz9 := hE9.size
  replace hE := hE.trans hE9
  replace hA := hA.ext hE9
  replace hB1 := hB1.ext hE9
  refine WL_q rfl (ev_not rfl) ?_
  refine WL_q rfl (ev_move rfl) ?_
  refine WL_splitv (t := 11) rfl (fun hg10 => ?_) (fun hg10 => ?_)
  · have hg9 := not_true hg10
    have hp9 := ttN hb9 hg9
    refine WL_no rfl rfl hg10 rfl ?_
    refine WL_no rfl rfl hg10 rfl ?_
    refine WL_no rfl rfl hg10 rfl ?_
    refine WL_q rfl (ev_pick_t rfl hg10 rfl) ?_
    refine WL_nil ?_
    refine thenE_n ?_
    refine W_cond_t rfl ?_
    refine W_seq ?_
    refine W_region ?_
    refine WL_q rfl (ev_assign rfl) ?_
    refine WL_q rfl (ev_assign rfl) ?_
    refine WL_nil ?_
    refine thenE_n ?_
    refine W_ret ?_
    refine thenE_r ?_
    refine ret2 rfl rfl rfl ?_
    first | (exact ⟨none, 0, [], _, rfl, .no (fun h => hp9 h.1), OwnH.nil, by simp, hE⟩) | (exact ⟨none, 0, [], _, rfl, .no (fun h => hp13 h.2), OwnH.nil, by simp, hE⟩) | (have hi9 : i = A.ends.length := (by omega); subst hi9; exact ⟨_, _, cen A, true, rfl, .yes ⟨hp9, hp13⟩ rfl, hO.up (by omega) (Nat.le_refl _), by omega, hE⟩)
  · have hg9 := not_false hg10
    have hp9 := hb9.1 hg9
    refine WL_qg rfl rfl hg10 rfl (ev_loads st31 sz31 rfl (cellsB hB1) rfl) ?_
    have hk := hp9.endsOk
    have hnd := hp9.nodes
    refine WL_mg rfl rfl hg10 rfl (ev_call rfl (isConnected_spec _ A _ hA (by omega) (by omega) (by assumption) (by omega))) ?_
    rintro _ w13 ⟨b13, rfl, hb13, hE13⟩
    have hz13 := hE13.size
    replace hE := hE.trans hE13
    replace hA := hA.ext hE13
    replace hB1 := hB1.ext hE13
    refine WL_qg rfl rfl hg10 rfl (ev_not rfl) ?_
    refine WL_q rfl (ev_pick_f rfl hg10 rfl) ?_
    refine WL_nil ?_
    refine thenE_n ?_
    refine W_cond rfl (fun hg14 => ?_) (fun hg14 => ?_)
    · have hg13 := not_true hg14
      have hp13 := ttN hb13 hg13
      refine W_seq ?_
      refine W_region ?_
      refine WL_q rfl (ev_assign rfl) ?_
      refine WL_q rfl (ev_assign rfl) ?_
      refine WL_nil ?_
      refine thenE_n ?_
      refine W_ret ?_
      refine thenE_r ?_
      refine ret2 rfl rfl rfl ?_
      first | (exact ⟨none, 0, [], _, rfl, .no (fun h => hp9 h.1), OwnH.nil, by simp, hE⟩) | (exact ⟨none, 0, [], _, rfl, .no (fun h => hp13 h.2), OwnH.nil, by simp, hE⟩) | (have hi9 : i = A.ends.length := (by omega); subst hi9; exact ⟨_, _, cen A, true, rfl, .yes ⟨hp9, hp13⟩ rfl, hO.up (by omega) (Nat.le_refl _), by omega, hE⟩)
    · have hg13 := not_false hg14
      have hp13 := hb13.1 hg13
      refine W_skip ?_
      refine thenE_n ?_
      refine W_seq ?_
      refine W_region ?_
      refine WL_q rfl (ev_loads st31 sz31 rfl (cellsB hB1) rfl) ?_
      refine WL_m rfl (ev_call rfl (ecc_spec _ A _ hA (by omega) (by omega) (by assumption))) ?_
      rintro _ w17 ⟨a17, c17, rfl, hO17, hE17⟩
      have hz17 := hE17.size
      replace hE := hE.trans hE17
      replace hA := hA.ext hE17
      replace hB1 := hB1.ext hE17
      have hee := ecc_eq hk
      rw [hee] at hO17
      have hI17 := own_i hO17
      refine WL_q rfl (ev_assign rfl) ?_
      refine WL_nil ?_
      refine thenE_n ?_
      refine W_seq ?_
      refine W_region ?_
      refine WL_q rfl (ev_assign rfl) ?_
      refine WL_nil ?_
      refine thenE_n ?_
      refine W_seq ?_
      refine W_seq ?_
      refine W_region ?_
      refine WL_q rfl (ev_move rfl) ?_
      refine WL_q rfl (ev_len Try.underlying23 rfl) ?_
      refine WL_q rfl (ev_move rfl) ?_
      refine WL_nil ?_
      refine thenE_n ?_
      refine W_block ?_
      refine W_loopC (G := Nat × Option Addr × Nat) [(4, _), (18, _), (19, _)] ((Subs.c rfl (Subs.c rfl (Subs.c rfl Subs.n)))) (fun ⟨i, a, c⟩ => [(5, .slice a (cenN (eccM A) (lmin (eccM A)) i).length c), (20, VI (i : Int))]) (fun ⟨i, a, c⟩ w' => Ext w17 w' ∧ i ≤ A.ends.length ∧ OwnH w17.heap.size w'.heap.size 0 0 w' 3 1 a (cenN (eccM A) (lmin (eccM A)) i).length c ((cenN (eccM A) (lmin (eccM A)) i).map VI)) (fun g => A.ends.length - g.1) (0, none, 0) ((Subs.c rfl (Subs.c (lkI rfl (by omega)) Subs.n))) (⟨Ext.refl _, ⟨Nat.zero_le _, OwnH.nil⟩⟩) ?_
      rintro ⟨i, a, c⟩ wL0 ⟨hRL0, hi', hO⟩
      have hzL0 := hRL0.size
      replace hE := hE.trans hRL0
      replace hA := hA.ext hRL0
      replace hB1 := hB1.ext hRL0
      replace hI17 := hI17.ext hRL0
      refine W_seq ?_
      refine W_region ?_
      refine WL_q rfl (ev_lss rfl rfl) ?_
      refine WL_nil ?_
      refine thenE_n ?_
      refine W_seq ?_
      refine W_cond rfl (fun hg21 => ?_) (fun hg21 => ?_)
      · have hp21 := of_decide_eq_true hg21
        refine W_skip ?_
        refine thenE_n ?_
        refine W_seq ?_
        refine W_block ?_
        refine W_seq ?_
        refine W_region ?_
        refine WL_q rfl (ev_move rfl) ?_
        have hlt : i < (eccM A).length := by omega
        have hbn := cenN_len (eccM A) (lmin (eccM A)) i
        refine WL_q rfl (ev_indexAddr Try.underlying23 sz3 rfl rfl (hI17.isSome (by omega)) (by omega) (by omega)) ?_
        refine WL_q rfl (ev_load one3 rfl (hI17.cell (i := i) (by omega))) ?_
        refine WL_q rfl (ev_assign rfl) ?_
        refine WL_q rfl (ev_assign rfl) ?_
        refine WL_nil ?_
        refine thenE_n ?_
        refine W_seq ?_
        refine W_region ?_
        refine WL_q rfl (ev_move rfl) ?_
        refine WL_q rfl (ev_move rfl) ?_
        refine WL_m rfl (ev_call rfl (Min_len (xs := eccM A) (by rw [hee]) hI17 (by omega) (by omega))) ?_
        rintro _ w27 ⟨rfl, hE27⟩
        have hz27 := hE27.size
        replace hE := hE.trans hE27
        replace hRL0 := hRL0.trans hE27
        replace hA := hA.ext hE27
        replace hB1 := hB1.ext hE27
        replace hI17 := hI17.ext hE27
        replace hO := hO.ext hE27
        refine WL_q rfl (ev_eql rfl rfl) ?_
        refine WL_nil ?_
        refine thenE_n ?_
        refine W_cond rfl (fun hg28 => ?_) (fun hg28 => ?_)
        · have hp28 := of_decide_eq_true hg28
          refine W_region ?_
          refine WL_q rfl (ev_move rfl) ?_
          refine WL_q rfl (ev_move rfl) ?_
          refine WL_m rfl (ev_lit1 Try.underlying23 el3 (by decide) (by decide) rfl rfl) ?_
          rintro _ w31 ⟨rfl, hN31⟩
          have hz31 := hN31.size
          replace hE := hE.trans hN31.ext
          replace hRL0 := hRL0.trans hN31.ext
          replace hA := hA.ext hN31.ext
          replace hB1 := hB1.ext hN31.ext
          replace hI17 := hI17.ext hN31.ext
          replace hO := hO.ext hN31.ext
          have hB31 := hN31.blk
          refine WL_m rfl (ev_appendT Try.underlying23 el3 rfl (by decide) rfl rfl hO (SAt.of_blk (cs := [_]) (ds := []) hB31) rfl (by simp [Value.oneCell']) (by omega) (by unfold maxLen; omega) (by omega)) ?_
          rintro _ w32 ⟨a32, c32, rfl, hO32, hK32, hQ32⟩
          have hz32 := hK32.size
          replace hE := hE.rg hK32 (by omega)
          replace hRL0 := hRL0.rg hK32 (by omega)
          replace hA := hA.rg hK32 (by omega)
          replace hB1 := hB1.rg hK32 (by omega)
          replace hI17 := hI17.rg hK32 (by omega)
          replace hB31 := hB31.rg hK32 (by omega)
          replace hO := hO32
          replace hO := ownt_snocI hO
          refine WL_q rfl (ev_assign rfl) ?_
          refine WL_nil ?_
          refine blockE_n ?_
          refine thenE_n ?_
          refine W_region ?_
          refine WL_q rfl (ev_add rfl rfl (by omega)) ?_
          refine WL_q rfl (ev_move rfl) ?_
          refine WL_nil ?_
          refine thenE_n ?_
          have hyes := cenN_yes hlt hp28
          exact ⟨(i + 1, a32, c32), (Subs.c rfl (Subs.c rfl (Subs.c rfl Subs.n))), (Subs.c (lkS rfl (by rw [← hyes]; simp)) (Subs.c (lkI rfl (by omega)) Subs.n)), ⟨hRL0, ⟨by omega, (ownt_to hO hyes (by rw [← hyes]; simp)).up (Nat.le_refl _) (by omega)⟩⟩, by first | omega | (dsimp only; omega)⟩
        · have hp28 := of_decide_eq_false hg28
          refine W_skip ?_
          refine blockE_n ?_
          refine thenE_n ?_
          refine W_region ?_
          refine WL_q rfl (ev_add rfl rfl (by omega)) ?_
          refine WL_q rfl (ev_move rfl) ?_
          refine WL_nil ?_
          refine thenE_n ?_
          have hno := cenN_no hlt hp28
          exact ⟨(i + 1, a, c), (Subs.c rfl (Subs.c rfl (Subs.c rfl Subs.n))), (Subs.c (lkS rfl (by rw [← hno])) (Subs.c (lkI rfl (by omega)) Subs.n)), ⟨hRL0, ⟨by omega, (ownt_to hO hno (by rw [← hno])).up (Nat.le_refl _) (by omega)⟩⟩, by first | omega | (dsimp only; omega)⟩
      · have hp21 := of_decide_eq_false hg21
        refine W_exit ?_
        refine thenE_x ?_
        refine thenE_x ?_
        refine blockE_hit ?_
        refine thenE_n ?_
        refine W_seq ?_
        refine W_region ?_
        refine WL_q rfl (ev_move rfl) ?_
        refine WL_q rfl (ev_assign rfl) ?_
        refine WL_q rfl (ev_assign rfl) ?_
        refine WL_nil ?_
        refine thenE_n ?_
        refine W_ret ?_
        refine ret2 rfl rfl rfl ?_
        first | (exact ⟨none, 0, [], _, rfl, .no (fun h => hp9 h.1), OwnH.nil, by simp, hE⟩) | (exact ⟨none, 0, [], _, rfl, .no (fun h => hp13 h.2), OwnH.nil, by simp, hE⟩) | (have hi9 : i = A.ends.length := (by omega); subst hi9; exact ⟨_, _, cen A, true, rfl, .yes ⟨hp9, hp13⟩ rfl, hO.up (by omega) (Nat.le_refl _), by omega, hE⟩)

set_option maxHeartbeats 4000000 in
set_option maxRecDepth 100000 in
theorem sCentresOf_spec {loA hiA : Nat} (nA : NA) (A : Net) (w : World) (hA : IsNet loA hiA w nA A) (hhiA : hiA ≤ w.heap.size) (hnA : totN A ≤ 1048576) :
    Fn Try.prog 30 #[netV nA A] w (fun o9 w' => ∃ a' c' ys q, o9 = .tuple #[.slice a' ys.length c', VB q] ∧ RV [] (opt (NOk A ∧ Conn A) (cen A)) ys q ∧ Ints 0 w'.heap.size w' a' c' ys ∧ ys.length ≤ 1048576 ∧ Ext w w') := by
  have hqA := totL_len A.ends
  have hmA : totL A.ends + A.ids.length + A.inputs.length ≤ 1048576 := hnA
  have hel := eccM_len A
  have hec := cen_len A
  have hE := Ext.refl w
  refine Fn_of Try.func30 rfl rfl (by kernel_rfl) rfl ?_
  refine W_seq ?_
  refine W_region ?_
  refine WL_m rfl (ev_box rfl) ?_
  rintro _ w1 ⟨rfl, hN1⟩
  have hz1 := hN1.size
  replace hE := hE.trans hN1.ext
  replace hA := hA.ext hN1.ext
  have hB1 : Blk w1 _ _ [_, _, _] := hN1.blk
  refine WL_q rfl (ev_assign rfl) ?_
  refine WL_q rfl (ev_assign rfl) ?_
  refine WL_nil ?_
  refine thenE_n ?_
  refine W_seq ?_
  refine W_seq ?_
  refine W_region ?_
  refine WL_q rfl (ev_loads st31 sz31 rfl (cellsB hB1) rfl) ?_
  refine WL_m rfl (ev_call rfl (neGood_spec _ A _ hA (by omega) (by omega))) ?_
  rintro _ w9 ⟨b9, rfl, hb9, hE9⟩
  have hz9 := hE9.size
  replace hE := hE.trans hE9
  replace hA := hA.ext hE9
  replace hB1 := hB1.ext hE9
  refine WL_q rfl (ev_not rfl) ?_
  refine WL_q rfl (ev_move rfl) ?_
  refine WL_splitv (t := 11) rfl (fun hg10 => ?_) (fun hg10 => ?_)
  · have hg9 := not_true hg10
    have hp9 := ttN hb9 hg9
    refine WL_no rfl rfl hg10 rfl ?_
    refine WL_no rfl rfl hg10 rfl ?_
    refine WL_no rfl rfl hg10 rfl ?_
    refine WL_q rfl (ev_pick_t rfl hg10 rfl) ?_
    refine WL_nil ?_
    refine thenE_n ?_
    refine W_cond_t rfl ?_
    refine W_seq ?_
    refine W_region ?_
    refine WL_q rfl (ev_assign rfl) ?_
    refine WL_q rfl (ev_assign rfl) ?_
    refine WL_nil ?_
    refine thenE_n ?_
    refine W_ret ?_
    refine thenE_r ?_
    refine ret2 rfl rfl rfl ?_
    first | (exact ⟨none, 0, [], _, rfl, .no (fun h => hp9 h.1), Ints.nil, by simp, hE⟩) | (exact ⟨none, 0, [], _, rfl, .no (fun h => hp13 h.2), Ints.nil, by simp, hE⟩) | (have hi9 : i = A.ends.length := (by omega); subst hi9; exact ⟨_, _, _, true, rfl, .yes ⟨hp9, hp13⟩ (cen_eq hk (by omega) (by omega)), (ownt_i hO).mono (Nat.zero_le _) (Nat.le_refl _), by have := cenN_len (eccM A) (mnN 40 (eccM A) A.ends.length) A.ends.length; omega, hE⟩)
  · have hg9 := not_false hg10
    have hp9 := hb9.1 hg9
    refine WL_qg rfl rfl hg10 rfl (ev_loads st31 sz31 rfl (cellsB hB1) rfl) ?_
    have hk := hp9.endsOk
    have hnd := hp9.nodes
    refine WL_mg rfl rfl hg10 rfl (ev_call rfl (meConnected_spec _ A _ hA (by omega) (by omega) (by assumption) (by omega) (by omega))) ?_
    rintro _ w13 ⟨b13, rfl, hb13, hE13⟩
    have hz13 := hE13.size
    replace hE := hE.trans hE13
    replace hA := hA.ext hE13
    replace hB1 := hB1.ext hE13
    refine WL_qg rfl rfl hg10 rfl (ev_not rfl) ?_
    refine WL_q rfl (ev_pick_f rfl hg10 rfl) ?_
    refine WL_nil ?_
    refine thenE_n ?_
    refine W_cond rfl (fun hg14 => ?_) (fun hg14 => ?_)
    · have hg13 := not_true hg14
      have hp13 := ttN hb13 hg13
      refine W_seq ?_
      refine W_region ?_
      refine WL_q rfl (ev_assign rfl) ?_
      refine WL_q rfl (ev_assign rfl) ?_
      refine WL_nil ?_
      refine thenE_n ?_
      refine W_ret ?_
      refine thenE_r ?_
      refine ret2 rfl rfl rfl ?_
      first | (exact ⟨none, 0, [], _, rfl, .no (fun h => hp9 h.1), Ints.nil, by simp, hE⟩) | (exact ⟨none, 0, [], _, rfl, .no (fun h => hp13 h.2), Ints.nil, by simp, hE⟩) | (have hi9 : i = A.ends.length := (by omega); subst hi9; exact ⟨_, _, _, true, rfl, .yes ⟨hp9, hp13⟩ (cen_eq hk (by omega) (by omega)), (ownt_i hO).mono (Nat.zero_le _) (Nat.le_refl _), by have := cenN_len (eccM A) (mnN 40 (eccM A) A.ends.length) A.ends.length; omega, hE⟩)
    · have hg13 := not_false hg14
      have hp13 := hb13.1 hg13
      refine W_skip ?_
      refine thenE_n ?_
      refine W_seq ?_
      refine W_region ?_
      refine WL_q rfl (ev_assign rfl) ?_
      refine WL_nil ?_
      refine thenE_n ?_
      refine W_seq ?_
      refine W_region ?_
      refine WL_q rfl (ev_assign rfl) ?_
      refine WL_nil ?_
      refine thenE_n ?_
      refine W_seq ?_
      refine W_seq ?_
      refine W_region ?_
      refine WL_q rfl (ev_fieldAddr fo31_0 rfl) ?_
      refine WL_q rfl (ev_load one29 rfl (hB1.cell rfl)) ?_
      refine WL_q rfl (ev_len Try.underlying29 rfl) ?_
      refine WL_q rfl (ev_move rfl) ?_
      refine WL_nil ?_
      refine thenE_n ?_
      refine W_block ?_
      refine W_loopC (G := Nat × Option Addr × Nat) [(1, _), (18, _)] ((Subs.c rfl (Subs.c rfl Subs.n))) (fun ⟨i, a, c⟩ => [(4, .slice a (cenN (eccM A) (mnN 40 (eccM A) i) i).length c), (5, VI (mnN 40 (eccM A) i)), (19, VI (i : Int))]) (fun ⟨i, a, c⟩ w' => Ext w13 w' ∧ i ≤ A.ends.length ∧ OwnH w13.heap.size w'.heap.size 0 0 w' 3 1 a (cenN (eccM A) (mnN 40 (eccM A) i) i).length c ((cenN (eccM A) (mnN 40 (eccM A) i) i).map VI)) (fun g => A.ends.length - g.1) (0, none, 0) ((Subs.c rfl (Subs.c rfl (Subs.c (lkI rfl (by omega)) Subs.n)))) (⟨Ext.refl _, ⟨Nat.zero_le _, OwnH.nil⟩⟩) ?_
      rintro ⟨i, a, c⟩ wL0 ⟨hRL0, hi', hO⟩
      have hzL0 := hRL0.size
      replace hE := hE.trans hRL0
      replace hA := hA.ext hRL0
      replace hB1 := hB1.ext hRL0
      refine W_seq ?_
      refine W_region ?_
      refine WL_q rfl (ev_lss rfl rfl) ?_
      refine WL_nil ?_
      refine thenE_n ?_
      refine W_seq ?_
      refine W_cond rfl (fun hg20 => ?_) (fun hg20 => ?_)
      · have hp20 := of_decide_eq_true hg20
        refine W_skip ?_
        refine thenE_n ?_
        refine W_seq ?_
        refine W_block ?_
        refine W_seq ?_
        refine W_region ?_
        refine WL_q rfl (ev_move rfl) ?_
        refine WL_q rfl (ev_assign rfl) ?_
        refine WL_nil ?_
        refine thenE_n ?_
        refine W_seq ?_
        refine W_region ?_
        refine WL_q rfl (ev_loads st31 sz31 rfl (cellsB hB1) rfl) ?_
        refine WL_q rfl (ev_move rfl) ?_
        have hlt : i < (eccM A).length := by omega
        have hl0 := bfs_len hk (v := (i : Int)) (by omega) (by omega)
        have hbn := cenN_len (eccM A) (mnN 40 (eccM A) i) i
        refine WL_m rfl (ev_call rfl (meFrom_spec _ A _ _ hA (by omega) (by omega) (by assumption) (by omega))) ?_
        rintro _ w24 ⟨a24, c24, rfl, hO24, hE24⟩
        have hz24 := hE24.size
        replace hE := hE.trans hE24
        replace hRL0 := hRL0.trans hE24
        replace hA := hA.ext hE24
        replace hB1 := hB1.ext hE24
        replace hO := hO.ext hE24
        have hI24 := own_i hO24
        refine WL_m rfl (ev_call rfl ((Fn.mono (R' := fun v w' => v = VI ((eccM A)[i]) ∧ Ext w24 w') (meMost_len hl0 hI24 (by omega)) fun v w' h => ⟨h.1.trans (vi (ecc_at hlt)), h.2⟩))) ?_
        rintro _ w25 ⟨rfl, hE25⟩
        have hz25 := hE25.size
        replace hE := hE.trans hE25
        replace hRL0 := hRL0.trans hE25
        replace hA := hA.ext hE25
        replace hB1 := hB1.ext hE25
        replace hO := hO.ext hE25
        replace hI24 := hI24.ext hE25
        refine WL_q rfl (ev_assign rfl) ?_
        refine WL_nil ?_
        refine thenE_n ?_
        refine W_seq ?_
        refine W_seq ?_
        refine W_region ?_
        refine WL_q rfl (ev_move rfl) ?_
        refine WL_q rfl (ev_move rfl) ?_
        refine WL_q rfl (ev_lss rfl rfl) ?_
        refine WL_nil ?_
        refine thenE_n ?_
        refine W_cond rfl (fun hg28 => ?_) (fun hg28 => ?_)
        · have hp28 := of_decide_eq_true hg28
          refine W_seq ?_
          refine W_region ?_
          refine WL_q rfl (ev_move rfl) ?_
          refine WL_q rfl (ev_assign rfl) ?_
          refine WL_nil ?_
          refine thenE_n ?_
          refine W_region ?_
          refine WL_q rfl (ev_assign rfl) ?_
          have hO0 : OwnH w25.heap.size w25.heap.size 0 0 w25 3 1 none 0 0 (([] : List Int).map VI) := OwnH.nil
          refine WL_nil ?_
          refine thenE_n ?_
          refine W_seq ?_
          refine W_region ?_
          refine WL_q rfl (ev_move rfl) ?_
          refine WL_q rfl (ev_move rfl) ?_
          refine WL_q rfl (ev_eql rfl rfl) ?_
          refine WL_nil ?_
          refine thenE_n ?_
          refine W_cond rfl (fun hg32 => ?_) (fun hg32 => ?_)
          · have hp32 := of_decide_eq_true hg32
            refine W_region ?_
            refine WL_q rfl (ev_move rfl) ?_
            refine WL_q rfl (ev_move rfl) ?_
            refine WL_m rfl (ev_lit1 Try.underlying23 el3 (by decide) (by decide) rfl rfl) ?_
            rintro _ w35 ⟨rfl, hN35⟩
            have hz35 := hN35.size
            replace hE := hE.trans hN35.ext
            replace hRL0 := hRL0.trans hN35.ext
            replace hA := hA.ext hN35.ext
            replace hB1 := hB1.ext hN35.ext
            replace hO := hO.ext hN35.ext
            replace hI24 := hI24.ext hN35.ext
            replace hO0 := hO0.ext hN35.ext
            have hB35 := hN35.blk
            refine WL_m rfl (ev_appendT Try.underlying23 el3 rfl (by decide) rfl rfl hO0 (SAt.of_blk (cs := [_]) (ds := []) hB35) rfl (by simp [Value.oneCell']) (by omega) (by unfold maxLen; omega) (by omega)) ?_
            rintro _ w36 ⟨a36, c36, rfl, hO36, hK36, hQ36⟩
            have hz36 := hK36.size
            replace hE := hE.rg hK36 (by omega)
            replace hRL0 := hRL0.rg hK36 (by omega)
            replace hA := hA.rg hK36 (by omega)
            replace hB1 := hB1.rg hK36 (by omega)
            replace hO := hO.rg hK36 (by omega)
            replace hI24 := hI24.rg hK36 (by omega)
            replace hB35 := hB35.rg hK36 (by omega)
            replace hO0 := hO36
            replace hO0 := ownt_snocI hO0
            refine WL_q rfl (ev_assign rfl) ?_
            refine WL_nil ?_
            refine blockE_n ?_
            refine thenE_n ?_
            refine W_region ?_
            refine WL_q rfl (ev_add rfl rfl (by omega)) ?_
            refine WL_q rfl (ev_move rfl) ?_
            refine WL_nil ?_
            refine thenE_n ?_
            have hyes : [] ++ [(i : Int)] = cenN (eccM A) (mnN 40 (eccM A) (i + 1)) (i + 1) := by rw [mnN_succ hlt, show min (mnN 40 (eccM A) i) (eccM A)[i] = (eccM A)[i] by omega, ← cenN_yes hlt rfl, cenN_new hlt hp28]
            exact ⟨(i + 1, a36, c36), (Subs.c rfl (Subs.c rfl Subs.n)), (Subs.c (lkS rfl (by rw [← hyes]; simp)) (Subs.c (lkI rfl (by rw [mnN_succ hlt]; omega)) (Subs.c (lkI rfl (by omega)) Subs.n))), ⟨hRL0, ⟨by omega, (ownt_to hO0 hyes (by rw [← hyes]; simp)).up (by omega) (by omega)⟩⟩, by first | omega | (dsimp only; omega)⟩
          · have hp32 := of_decide_eq_false hg32
            refine W_skip ?_
            refine blockE_n ?_
            refine thenE_n ?_
            refine W_region ?_
            refine WL_q rfl (ev_add rfl rfl (by omega)) ?_
            refine WL_q rfl (ev_move rfl) ?_
            refine WL_nil ?_
            refine thenE_n ?_
            exact (decF hg32).elim
        · have hp28 := of_decide_eq_false hg28
          refine W_skip ?_
          refine thenE_n ?_
          refine W_seq ?_
          refine W_region ?_
          refine WL_q rfl (ev_move rfl) ?_
          refine WL_q rfl (ev_move rfl) ?_
          refine WL_q rfl (ev_eql rfl rfl) ?_
          refine WL_nil ?_
          refine thenE_n ?_
          refine W_cond rfl (fun hg32 => ?_) (fun hg32 => ?_)
          · have hp32 := of_decide_eq_true hg32
            refine W_region ?_
            refine WL_q rfl (ev_move rfl) ?_
            refine WL_q rfl (ev_move rfl) ?_
            refine WL_m rfl (ev_lit1 Try.underlying23 el3 (by decide) (by decide) rfl rfl) ?_
            rintro _ w35 ⟨rfl, hN35⟩
            have hz35 := hN35.size
            replace hE := hE.trans hN35.ext
            replace hRL0 := hRL0.trans hN35.ext
            replace hA := hA.ext hN35.ext
            replace hB1 := hB1.ext hN35.ext
            replace hO := hO.ext hN35.ext
            replace hI24 := hI24.ext hN35.ext
            have hB35 := hN35.blk
            refine WL_m rfl (ev_appendT Try.underlying23 el3 rfl (by decide) rfl rfl hO (SAt.of_blk (cs := [_]) (ds := []) hB35) rfl (by simp [Value.oneCell']) (by omega) (by unfold maxLen; omega) (by omega)) ?_
            rintro _ w36 ⟨a36, c36, rfl, hO36, hK36, hQ36⟩
            have hz36 := hK36.size
            replace hE := hE.rg hK36 (by omega)
            replace hRL0 := hRL0.rg hK36 (by omega)
            replace hA := hA.rg hK36 (by omega)
            replace hB1 := hB1.rg hK36 (by omega)
            replace hI24 := hI24.rg hK36 (by omega)
            replace hB35 := hB35.rg hK36 (by omega)
            replace hO := hO36
            replace hO := ownt_snocI hO
            refine WL_q rfl (ev_assign rfl) ?_
            refine WL_nil ?_
            refine blockE_n ?_
            refine thenE_n ?_
            refine W_region ?_
            refine WL_q rfl (ev_add rfl rfl (by omega)) ?_
            refine WL_q rfl (ev_move rfl) ?_
            refine WL_nil ?_
            refine thenE_n ?_
            have hm9 : mnN 40 (eccM A) (i + 1) = mnN 40 (eccM A) i := by rw [mnN_succ hlt]; omega
            have hyes := cenN_yes hlt hp32
            exact ⟨(i + 1, a36, c36), (Subs.c rfl (Subs.c rfl Subs.n)), (Subs.c (lkS rfl (by rw [hm9, ← hyes]; simp)) (Subs.c (lkI rfl hm9.symm) (Subs.c (lkI rfl (by omega)) Subs.n))), ⟨hRL0, ⟨by omega, (ownt_to hO (by rw [hm9]; exact hyes) (by rw [hm9, ← hyes]; simp)).up (Nat.le_refl _) (by omega)⟩⟩, by first | omega | (dsimp only; omega)⟩
          · have hp32 := of_decide_eq_false hg32
            refine W_skip ?_
            refine blockE_n ?_
            refine thenE_n ?_
            refine W_region ?_
            refine WL_q rfl (ev_add rfl rfl (by omega)) ?_
            refine WL_q rfl (ev_move rfl) ?_
            refine WL_nil ?_
            refine thenE_n ?_
            have hm9 : mnN 40 (eccM A) (i + 1) = mnN 40 (eccM A) i := by rw [mnN_succ hlt]; omega
            have hno := cenN_no hlt hp32
            exact ⟨(i + 1, a, c), (Subs.c rfl (Subs.c rfl Subs.n)), (Subs.c (lkS rfl (by rw [hm9, ← hno])) (Subs.c (lkI rfl hm9.symm) (Subs.c (lkI rfl (by omega)) Subs.n))), ⟨hRL0, ⟨by omega, (ownt_to hO (by rw [hm9]; exact hno) (by rw [hm9, ← hno])).up (Nat.le_refl _) (by omega)⟩⟩, by first | omega | (dsimp only; omega)⟩
      · have hp20 := of_decide_eq_false hg20
        refine W_exit ?_
        refine thenE_x ?_
        refine thenE_x ?_
        refine blockE_hit ?_
        refine thenE_n ?_
        refine W_seq ?_
        refine W_region ?_
        refine WL_q rfl (ev_move rfl) ?_
        refine WL_q rfl (ev_assign rfl) ?_
        refine WL_q rfl (ev_assign rfl) ?_
        refine WL_nil ?_
        refine thenE_n ?_
        refine W_ret ?_
        refine ret2 rfl rfl rfl ?_
        first | (exact ⟨none, 0, [], _, rfl, .no (fun h => hp9 h.1), Ints.nil, by simp, hE⟩) | (exact ⟨none, 0, [], _, rfl, .no (fun h => hp13 h.2), Ints.nil, by simp, hE⟩) | (have hi9 : i = A.ends.length := (by omega); subst hi9; exact ⟨_, _, _, true, rfl, .yes ⟨hp9, hp13⟩ (cen_eq hk (by omega) (by omega)), (ownt_i hO).mono (Nat.zero_le _) (Nat.le_refl _), by have := cenN_len (eccM A) (mnN 40 (eccM A) A.ends.length) A.ends.length; omega, hE⟩)

set_option maxRecDepth 100000 in
theorem law_CentresOf (nA : NA) (A : Net) (w : World) (hA : IsNet 0 w.heap.size w nA A) (hsA : SmN A) :
    Fn Try.prog 7 #[netV nA A] w (fun v w' => v = VB true ∧ Ext w w') := by
  have hE := Ext.refl w
  refine Fn_of Try.func7 rfl rfl (by kernel_rfl) rfl ?_
  refine W_seq ?_
  refine W_region ?_
  refine WL_m rfl (ev_box rfl) ?_
  rintro _ w1 ⟨rfl, hN1⟩
  have hz1 := hN1.size
  replace hE := hE.trans hN1.ext
  replace hA := hA.ext hN1.ext
  have hB1 : Blk w1 _ _ [_, _, _] := hN1.blk
  refine WL_q rfl (ev_assign rfl) ?_
  refine WL_nil ?_
  refine thenE_n ?_
  refine W_seq ?_
  refine W_region ?_
  refine WL_q rfl (ev_assign rfl) ?_
  refine WL_nil ?_
  refine thenE_n ?_
  refine W_seq ?_
  refine W_region ?_
  refine WL_q rfl (ev_loads st25 sz25 rfl (cellsB hB1) rfl) ?_
  refine WL_q rfl (ev_move rfl) ?_
  refine WL_m rfl (ev_call rfl (szNetwork_spec _ A _ _ hA (by omega) hsA)) ?_
  rintro _ w16 ⟨r16, rfl, hE16, hr16⟩
  have hz16 := hE16.size
  replace hE := hE.trans hE16
  replace hA := hA.ext hE16
  replace hB1 := hB1.ext hE16
  refine WL_q rfl (ev_assign rfl) ?_
  refine WL_nil ?_
  refine thenE_n ?_
  refine W_seq ?_
  refine W_seq ?_
  refine W_region ?_
  refine WL_q rfl (ev_move rfl) ?_
  refine WL_q rfl (ev_lss rfl rfl) ?_
  refine WL_nil ?_
  refine thenE_n ?_
  refine W_cond rfl (fun hg18 => ?_) (fun hg18 => ?_)
  · have hp18 := of_decide_eq_true hg18
    refine W_seq ?_
    refine W_region ?_
    refine WL_q rfl (ev_assign rfl) ?_
    refine WL_nil ?_
    refine thenE_n ?_
    refine W_ret ?_
    refine thenE_r ?_
    refine ret1 rfl rfl ?_
    first | (exact ⟨rfl, hE⟩) | (exact (tfX hg18).elim) | (exact (decF hg18).elim) | (exfalso; omega)
  · have hp18 := of_decide_eq_false hg18
    refine W_skip ?_
    refine thenE_n ?_
    refine W_seq ?_
    refine W_region ?_
    refine WL_q rfl (ev_loads st25 sz25 rfl (cellsB hB1) rfl) ?_
    refine WL_m rfl (ev_call rfl (toNetwork_spec _ A _ hA (by omega) (by omega))) ?_
    rintro _ w21 ⟨h21, rfl, hF21, hE21⟩
    have hz21 := hE21.size
    replace hE := hE.trans hE21
    replace hA := hA.ext hE21
    replace hB1 := hB1.ext hE21
    have hN21 := hF21.is
    refine WL_m rfl (ev_call rfl (sCentresOf_spec _ A _ hN21 (by omega) (by omega))) ?_
    rintro _ w22 ⟨a22, c22, y22, q22, rfl, hr22, hx22, hl22, hE22⟩
    have hz22 := hE22.size
    replace hE := hE.trans hE22
    replace hA := hA.ext hE22
    replace hB1 := hB1.ext hE22
    replace hF21 := hF21.ext hE22
    replace hN21 := hN21.ext hE22
    refine WL_q rfl (ev_move rfl) ?_
    refine WL_q rfl (ev_extract rfl rfl) ?_
    refine WL_q rfl (ev_extract rfl rfl) ?_
    refine WL_q rfl (ev_assign rfl) ?_
    refine WL_q rfl (ev_assign rfl) ?_
    refine WL_nil ?_
    refine thenE_n ?_
    refine W_seq ?_
    refine W_region ?_
    refine WL_q rfl (ev_loads st25 sz25 rfl (cellsB hB1) rfl) ?_
    refine WL_m rfl (ev_call rfl (toNetwork_spec _ A _ hA (by omega) (by omega))) ?_
    rintro _ w26 ⟨h26, rfl, hF26, hE26⟩
    have hz26 := hE26.size
    replace hE := hE.trans hE26
    replace hA := hA.ext hE26
    replace hB1 := hB1.ext hE26
    replace hF21 := hF21.ext hE26
    replace hN21 := hN21.ext hE26
    replace hx22 := hx22.ext hE26
    have hN26 := hF26.is
    refine WL_m rfl (ev_alloc zr31) ?_
    rintro _ w6 ⟨rfl, hN6⟩
    have hz6 := hN6.size
    replace hE := hE.trans hN6.ext
    replace hA := hA.ext hN6.ext
    replace hB1 := hB1.ext hN6.ext
    replace hF21 := hF21.ext hN6.ext
    replace hN21 := hN21.ext hN6.ext
    replace hx22 := hx22.ext hN6.ext
    replace hF26 := hF26.ext hN6.ext
    replace hN26 := hN26.ext hN6.ext
    have hB6 : Blk w6 _ _ [_, _, _] := hN6.blk
    refine WL_s (ev_stores sz31 rfl rfl rfl (by simp [Value.oneCell']) hB6 (by simp)) ?_
    rintro _ w6_3 hS6_3
    have hz6_3 := hS6_3.size
    replace hE := hE.sto hS6_3 (by omega)
    replace hA := hA.sto hS6_3 (by omega)
    replace hB1 := hB1.sto hS6_3 (by omega)
    replace hF21 := hF21.sto hS6_3 (by omega)
    replace hN21 := hN21.sto hS6_3 (by omega)
    replace hx22 := hx22.sto hS6_3 (by omega)
    replace hF26 := hF26.sto hS6_3 (by omega)
    replace hN26 := hN26.sto hS6_3 (by omega)
    replace hB6 : Blk w6_3 _ _ [_, _, _] := hS6_3.blk
    refine WL_nil ?_
    refine thenE_n ?_
    refine W_seq ?_
    refine W_region ?_
    refine WL_q rfl (ev_loads st31 sz31 rfl (cellsB hB6) rfl) ?_
    refine WL_m rfl (ev_call rfl (CentresOf_spec _ A _ hN26 (by omega) (by omega))) ?_
    rintro _ w29 ⟨a29, c29, y29, q29, rfl, hr29, hO29, hl29, hE29⟩
    have hz29 := hE29.size
    replace hE := hE.trans hE29
    replace hA := hA.ext hE29
    replace hB1 := hB1.ext hE29
    replace hF21 := hF21.ext hE29
    replace hN21 := hN21.ext hE29
    replace hx22 := hx22.ext hE29
    replace hF26 := hF26.ext hE29
    replace hN26 := hN26.ext hE29
    replace hB6 := hB6.ext hE29
    refine WL_q rfl (ev_move rfl) ?_
    refine WL_q rfl (ev_extract rfl rfl) ?_
    refine WL_q rfl (ev_extract rfl rfl) ?_
    refine WL_q rfl (ev_assign rfl) ?_
    refine WL_q rfl (ev_assign rfl) ?_
    refine WL_nil ?_
    refine thenE_n ?_
    refine W_seq ?_
    refine W_seq ?_
    refine W_region ?_
    refine WL_q rfl (ev_move rfl) ?_
    refine WL_q rfl (ev_move rfl) ?_
    refine WL_m rfl (ev_call rfl (eqIntS_spec _ _ _ _ y29 y22 _ (ownt_i hO29) hx22 (by omega))) ?_
    rintro _ w34 ⟨rfl, hE34⟩
    have hz34 := hE34.size
    replace hE := hE.trans hE34
    replace hA := hA.ext hE34
    replace hB1 := hB1.ext hE34
    replace hF21 := hF21.ext hE34
    replace hN21 := hN21.ext hE34
    replace hx22 := hx22.ext hE34
    replace hF26 := hF26.ext hE34
    replace hN26 := hN26.ext hE34
    replace hB6 := hB6.ext hE34
    replace hO29 := hO29.ext hE34
    refine WL_q rfl (ev_not rfl) ?_
    refine WL_q rfl (ev_move rfl) ?_
    refine WL_splitv (t := 36) rfl (fun hg35 => ?_) (fun hg35 => ?_)
    · have hg34 := not_true hg35
      refine WL_no rfl rfl hg35 rfl ?_
      refine WL_no rfl rfl hg35 rfl ?_
      refine WL_no rfl rfl hg35 rfl ?_
      refine WL_q rfl (ev_pick_t rfl hg35 rfl) ?_
      refine WL_nil ?_
      refine thenE_n ?_
      refine W_cond_t rfl ?_
      refine W_seq ?_
      refine W_region ?_
      refine WL_q rfl (ev_assign rfl) ?_
      refine WL_nil ?_
      refine thenE_n ?_
      refine W_ret ?_
      refine thenE_r ?_
      refine ret1 rfl rfl ?_
      first | (exact ⟨rfl, hE⟩) | (exact (bneE hg34 (hr29.det1 hr22)).elim) | (exact absurd (hr29.det1 hr22) hp34) | (exact absurd (hr29.det1 hr22) (of_decide_eq_false hg34)) | (exact (bneE hg34 (hr29.det2 hr22)).elim) | (exact absurd (hr29.det2 hr22) hp34) | (exact absurd (hr29.det2 hr22) (of_decide_eq_false hg34)) | (exact (bneE hg34 (hr29.det3 hr22)).elim) | (exact absurd (hr29.det3 hr22) hp34) | (exact absurd (hr29.det3 hr22) (of_decide_eq_false hg34)) | (exact (tfX hg34).elim) | (exact (decF hg34).elim) | (exfalso; omega)
    · have hg34 := not_false hg35
      refine WL_qg rfl rfl hg35 rfl (ev_move rfl) ?_
      refine WL_qg rfl rfl hg35 rfl (ev_move rfl) ?_
      refine WL_qg rfl rfl hg35 rfl (ev_neq_b Try.underlying4 rfl rfl) ?_
      refine WL_q rfl (ev_pick_f rfl hg35 rfl) ?_
      refine WL_nil ?_
      refine thenE_n ?_
      refine W_cond rfl (fun hg39 => ?_) (fun hg39 => ?_)
      · refine W_seq ?_
        refine W_region ?_
        refine WL_q rfl (ev_assign rfl) ?_
        refine WL_nil ?_
        refine thenE_n ?_
        refine W_ret ?_
        refine thenE_r ?_
        refine ret1 rfl rfl ?_
        first | (exact ⟨rfl, hE⟩) | (exact (bneE hg39 (hr29.det1 hr22)).elim) | (exact absurd (hr29.det1 hr22) hp39) | (exact absurd (hr29.det1 hr22) (of_decide_eq_false hg39)) | (exact (bneE hg39 (hr29.det2 hr22)).elim) | (exact absurd (hr29.det2 hr22) hp39) | (exact absurd (hr29.det2 hr22) (of_decide_eq_false hg39)) | (exact (bneE hg39 (hr29.det3 hr22)).elim) | (exact absurd (hr29.det3 hr22) hp39) | (exact absurd (hr29.det3 hr22) (of_decide_eq_false hg39)) | (exact (tfX hg39).elim) | (exact (decF hg39).elim) | (exfalso; omega)
      · refine W_skip ?_
        refine thenE_n ?_
        refine W_seq ?_
        refine W_seq ?_
        refine W_drawE [(0, true), (1, true), (2, false), (3, false), (4, true)] mixed (by kernel_rfl) rfl (by kernel_rfl) ?_
        intro wd10 hEd10 hzd10
        replace hE := hE.trans hEd10
        replace hA := hA.ext hEd10
        replace hB1 := hB1.ext hEd10
        replace hF21 := hF21.ext hEd10
        replace hN21 := hN21.ext hEd10
        replace hx22 := hx22.ext hEd10
        replace hF26 := hF26.ext hEd10
        replace hN26 := hN26.ext hEd10
        replace hB6 := hB6.ext hEd10
        replace hO29 := hO29.ext hEd10
        have hDd10 := Ext.refl wd10
        refine PW_q rfl rfl (fun wq hq => ev_loads st31 sz31 rfl (cellsB (hq.blk hB6)) rfl) ?_
        refine PW_q rfl rfl (fun wq hq => ev_loads st25 sz25 rfl (cellsB (hq.blk hB1)) rfl) ?_
        refine PW_m rfl rfl (ev_call rfl (toNetwork_spec _ A _ hA (by omega) (by omega))) ?_
        rintro _ w43 ⟨h43, rfl, hF43, hE43⟩
        have hz43 := hE43.size
        replace hE := hE.trans hE43
        replace hDd10 := hDd10.trans hE43
        have hN43 := hF43.is
        refine ⟨hDd10, ?_⟩
        have hA_3 := hA.ext hDd10
        have hB1_3 := hB1.ext hDd10
        have hF21_3 := hF21.ext hDd10
        have hN21_3 := hN21.ext hDd10
        have hx22_3 := hx22.ext hDd10
        have hF26_3 := hF26.ext hDd10
        have hN26_3 := hN26.ext hDd10
        have hB6_3 := hB6.ext hDd10
        have hO29_3 := hO29.ext hDd10
        refine PW_m rfl rfl (ev_call rfl (eqNetwork_spec _ _ A _ hN26_3 hN43 (by omega))) ?_
        rintro _ w44 ⟨rfl, hE44⟩
        have hz44 := hE44.size
        replace hE := hE.trans hE44
        replace hDd10 := hDd10.trans hE44
        replace hF43 := hF43.ext hE44
        replace hN43 := hN43.ext hE44
        refine ⟨hDd10, ?_⟩
        refine PW_q rfl rfl (fun wq hq => ev_not rfl) ?_
        replace hA := hA.ext hDd10
        replace hB1 := hB1.ext hDd10
        replace hF21 := hF21.ext hDd10
        replace hN21 := hN21.ext hDd10
        replace hx22 := hx22.ext hDd10
        replace hF26 := hF26.ext hDd10
        replace hN26 := hN26.ext hDd10
        replace hB6 := hB6.ext hDd10
        replace hO29 := hO29.ext hDd10
        refine PW_nil ?_
        refine thenE_n ?_
        refine W_cond rfl (fun hg45 => ?_) (fun hg45 => ?_)
        · have hg44 := not_true hg45
          refine W_seq ?_
          refine W_region ?_
          refine WL_q rfl (ev_assign rfl) ?_
          refine WL_nil ?_
          refine thenE_n ?_
          refine W_ret ?_
          refine thenE_r ?_
          refine ret1 rfl rfl ?_
          first | (exact ⟨rfl, hE⟩) | (exact (bneE hg44 (hr29.det1 hr22)).elim) | (exact absurd (hr29.det1 hr22) hp44) | (exact absurd (hr29.det1 hr22) (of_decide_eq_false hg44)) | (exact (bneE hg44 (hr29.det2 hr22)).elim) | (exact absurd (hr29.det2 hr22) hp44) | (exact absurd (hr29.det2 hr22) (of_decide_eq_false hg44)) | (exact (bneE hg44 (hr29.det3 hr22)).elim) | (exact absurd (hr29.det3 hr22) hp44) | (exact absurd (hr29.det3 hr22) (of_decide_eq_false hg44)) | (exact (tfX hg44).elim) | (exact (decF hg44).elim) | (exfalso; omega)
        · have hg44 := not_false hg45
          refine W_skip ?_
          refine thenE_n ?_
          refine W_seq ?_
          refine W_region ?_
          refine WL_q rfl (ev_assign rfl) ?_
          refine WL_nil ?_
          refine thenE_n ?_
          refine W_seq ?_
          refine W_region ?_
          refine WL_q rfl (ev_loads st31 sz31 rfl (cellsB hB6) rfl) ?_
          refine WL_q rfl (ev_move rfl) ?_
          refine WL_m rfl (ev_call rfl (markNetwork_spec _ A _ _ hF26 (by omega) (by omega) (by omega))) ?_
          rintro _ w48 ⟨r48, rfl, hr48, hK48⟩
          have hz48 := hK48.size
          replace hE := hE.mrk hK48 (by omega)
          replace hA := hA.mrk hK48 (by omega)
          replace hB1 := hB1.mrk hK48 (by omega)
          replace hF21 := hF21.mrk hK48 (by omega)
          replace hN21 := hN21.mrk hK48 (by omega)
          replace hx22 := hx22.mrk hK48 (by omega)
          replace hB6 := hB6.mrk hK48 (by omega)
          replace hO29 := hO29.mrk hK48 (by omega)
          replace hF43 := hF43.mrk hK48 (by omega)
          replace hN43 := hN43.mrk hK48 (by omega)
          refine WL_q rfl (ev_assign rfl) ?_
          refine WL_nil ?_
          refine thenE_n ?_
          refine W_seq ?_
          refine W_seq ?_
          refine W_region ?_
          refine WL_q rfl (ev_move rfl) ?_
          refine WL_q rfl (ev_lss rfl rfl) ?_
          refine WL_q rfl (ev_move rfl) ?_
          refine WL_splitv (t := 51) rfl (fun hg50 => ?_) (fun hg50 => ?_)
          · have hp50 := of_decide_eq_true hg50
            refine WL_no rfl rfl hg50 rfl ?_
            refine WL_no rfl rfl hg50 rfl ?_
            refine WL_no rfl rfl hg50 rfl ?_
            refine WL_no rfl rfl hg50 rfl ?_
            refine WL_q rfl (ev_pick_t rfl hg50 rfl) ?_
            refine WL_q rfl (ev_move rfl) ?_
            refine WL_no rfl rfl rfl rfl ?_
            refine WL_no rfl rfl rfl rfl ?_
            refine WL_no rfl rfl rfl rfl ?_
            refine WL_q rfl (ev_pick_t rfl rfl rfl) ?_
            refine WL_nil ?_
            refine thenE_n ?_
            refine W_cond_t rfl ?_
            refine W_seq ?_
            refine W_region ?_
            refine WL_q rfl (ev_assign rfl) ?_
            refine WL_nil ?_
            refine thenE_n ?_
            refine W_ret ?_
            refine thenE_r ?_
            refine ret1 rfl rfl ?_
            first | (exact ⟨rfl, hE⟩) | (exact (bneE hg50 (hr29.det1 hr22)).elim) | (exact absurd (hr29.det1 hr22) hp50) | (exact absurd (hr29.det1 hr22) (of_decide_eq_false hg50)) | (exact (bneE hg50 (hr29.det2 hr22)).elim) | (exact absurd (hr29.det2 hr22) hp50) | (exact absurd (hr29.det2 hr22) (of_decide_eq_false hg50)) | (exact (bneE hg50 (hr29.det3 hr22)).elim) | (exact absurd (hr29.det3 hr22) hp50) | (exact absurd (hr29.det3 hr22) (of_decide_eq_false hg50)) | (exact (tfX hg50).elim) | (exact (decF hg50).elim) | (exfalso; omega)
          · have hp50 := of_decide_eq_false hg50
            refine WL_qg rfl rfl hg50 rfl (ev_move rfl) ?_
            refine WL_qg rfl rfl hg50 rfl (ev_move rfl) ?_
            refine WL_mg rfl rfl hg50 rfl (ev_call rfl (eqIntS_spec _ _ _ _ y29 y22 _ (ownt_i hO29) hx22 (by omega))) ?_
            rintro _ w54 ⟨rfl, hE54⟩
            have hz54 := hE54.size
            replace hE := hE.trans hE54
            replace hA := hA.ext hE54
            replace hB1 := hB1.ext hE54
            replace hF21 := hF21.ext hE54
            replace hN21 := hN21.ext hE54
            replace hx22 := hx22.ext hE54
            replace hB6 := hB6.ext hE54
            replace hO29 := hO29.ext hE54
            replace hF43 := hF43.ext hE54
            replace hN43 := hN43.ext hE54
            refine WL_qg rfl rfl hg50 rfl (ev_not rfl) ?_
            refine WL_q rfl (ev_pick_f rfl hg50 rfl) ?_
            refine WL_q rfl (ev_move rfl) ?_
            refine WL_splitv (t := 57) rfl (fun hg55 => ?_) (fun hg55 => ?_)
            · have hg54 := not_true hg55
              refine WL_no rfl rfl hg55 rfl ?_
              refine WL_no rfl rfl hg55 rfl ?_
              refine WL_no rfl rfl hg55 rfl ?_
              refine WL_q rfl (ev_pick_t rfl hg55 rfl) ?_
              refine WL_nil ?_
              refine thenE_n ?_
              refine W_cond_t rfl ?_
              refine W_seq ?_
              refine W_region ?_
              refine WL_q rfl (ev_assign rfl) ?_
              refine WL_nil ?_
              refine thenE_n ?_
              refine W_ret ?_
              refine thenE_r ?_
              refine ret1 rfl rfl ?_
              first | (exact ⟨rfl, hE⟩) | (exact (bneE hg54 (hr29.det1 hr22)).elim) | (exact absurd (hr29.det1 hr22) hp54) | (exact absurd (hr29.det1 hr22) (of_decide_eq_false hg54)) | (exact (bneE hg54 (hr29.det2 hr22)).elim) | (exact absurd (hr29.det2 hr22) hp54) | (exact absurd (hr29.det2 hr22) (of_decide_eq_false hg54)) | (exact (bneE hg54 (hr29.det3 hr22)).elim) | (exact absurd (hr29.det3 hr22) hp54) | (exact absurd (hr29.det3 hr22) (of_decide_eq_false hg54)) | (exact (tfX hg54).elim) | (exact (decF hg54).elim) | (exfalso; omega)
            · have hg54 := not_false hg55
              refine WL_qg rfl rfl hg55 rfl (ev_move rfl) ?_
              refine WL_qg rfl rfl hg55 rfl (ev_move rfl) ?_
              refine WL_qg rfl rfl hg55 rfl (ev_neq_b Try.underlying4 rfl rfl) ?_
              refine WL_q rfl (ev_pick_f rfl hg55 rfl) ?_
              refine WL_nil ?_
              refine thenE_n ?_
              refine W_cond rfl (fun hg60 => ?_) (fun hg60 => ?_)
              · refine W_seq ?_
                refine W_region ?_
                refine WL_q rfl (ev_assign rfl) ?_
                refine WL_nil ?_
                refine thenE_n ?_
                refine W_ret ?_
                refine thenE_r ?_
                refine ret1 rfl rfl ?_
                first | (exact ⟨rfl, hE⟩) | (exact (bneE hg60 (hr29.det1 hr22)).elim) | (exact absurd (hr29.det1 hr22) hp60) | (exact absurd (hr29.det1 hr22) (of_decide_eq_false hg60)) | (exact (bneE hg60 (hr29.det2 hr22)).elim) | (exact absurd (hr29.det2 hr22) hp60) | (exact absurd (hr29.det2 hr22) (of_decide_eq_false hg60)) | (exact (bneE hg60 (hr29.det3 hr22)).elim) | (exact absurd (hr29.det3 hr22) hp60) | (exact absurd (hr29.det3 hr22) (of_decide_eq_false hg60)) | (exact (tfX hg60).elim) | (exact (decF hg60).elim) | (exfalso; omega)
              · refine W_skip ?_
                refine thenE_n ?_
                refine W_seq ?_
                refine W_region ?_
                refine WL_q rfl (ev_assign rfl) ?_
                refine WL_nil ?_
                refine thenE_n ?_
                refine W_seq ?_
                refine W_region ?_
                refine WL_q rfl (ev_move rfl) ?_
                refine WL_q rfl (ev_move rfl) ?_
                refine WL_m rfl (ev_call rfl (markIntS_ownH hO29 (by omega) (by omega))) ?_
                rintro _ w64 ⟨rfl, hO64, hK64⟩
                have hz64 := hK64.size
                have hR64 := hK64
                replace hE := hE.rg hR64 (by omega)
                replace hA := hA.rg hR64 (by omega)
                replace hB1 := hB1.rg hR64 (by omega)
                replace hF21 := hF21.rg hR64 (by omega)
                replace hN21 := hN21.rg hR64 (by omega)
                replace hx22 := hx22.rg hR64 (by omega)
                replace hB6 := hB6.rg hR64 (by omega)
                replace hF43 := hF43.rg hR64 (by omega)
                replace hN43 := hN43.rg hR64 (by omega)
                replace hO29 := hO64
                refine WL_q rfl (ev_assign rfl) ?_
                refine WL_nil ?_
                refine thenE_n ?_
                refine W_seq ?_
                refine W_region ?_
                refine WL_q rfl (ev_assign rfl) ?_
                refine WL_nil ?_
                refine thenE_n ?_
                refine W_seq ?_
                refine W_region ?_
                refine WL_q rfl (ev_move rfl) ?_
                refine WL_q rfl (ev_move rfl) ?_
                refine WL_m rfl (ev_call rfl (heldIntS_spec _ _ (nums 1 y29.length) _ _ (Ints.of_own (nums_len _ _) hO29.1) rfl (by omega) (by omega))) ?_
                rintro _ w67 ⟨rfl, hE67⟩
                have hz67 := hE67.size
                replace hE := hE.trans hE67
                replace hA := hA.ext hE67
                replace hB1 := hB1.ext hE67
                replace hF21 := hF21.ext hE67
                replace hN21 := hN21.ext hE67
                replace hx22 := hx22.ext hE67
                replace hB6 := hB6.ext hE67
                replace hO29 := hO29.ext hE67
                replace hF43 := hF43.ext hE67
                replace hN43 := hN43.ext hE67
                refine WL_q rfl (ev_assign rfl) ?_
                refine WL_nil ?_
                refine thenE_n ?_
                refine W_seq ?_
                refine W_seq ?_
                refine W_region ?_
                refine WL_q rfl (ev_move rfl) ?_
                refine WL_q rfl (ev_lss rfl rfl) ?_
                refine WL_nil ?_
                refine thenE_n ?_
                refine W_cond rfl (fun hg69 => ?_) (fun hg69 => ?_)
                · have hp69 := of_decide_eq_true hg69
                  refine W_seq ?_
                  refine W_region ?_
                  refine WL_q rfl (ev_assign rfl) ?_
                  refine WL_nil ?_
                  refine thenE_n ?_
                  refine W_ret ?_
                  refine thenE_r ?_
                  refine ret1 rfl rfl ?_
                  first | (exact ⟨rfl, hE⟩) | (exact (bneE hg69 (hr29.det1 hr22)).elim) | (exact absurd (hr29.det1 hr22) hp69) | (exact absurd (hr29.det1 hr22) (of_decide_eq_false hg69)) | (exact (bneE hg69 (hr29.det2 hr22)).elim) | (exact absurd (hr29.det2 hr22) hp69) | (exact absurd (hr29.det2 hr22) (of_decide_eq_false hg69)) | (exact (bneE hg69 (hr29.det3 hr22)).elim) | (exact absurd (hr29.det3 hr22) hp69) | (exact absurd (hr29.det3 hr22) (of_decide_eq_false hg69)) | (exact (tfX hg69).elim) | (exact (decF hg69).elim) | (exfalso; omega)
                · have hp69 := of_decide_eq_false hg69
                  refine W_skip ?_
                  refine thenE_n ?_
                  refine W_seq ?_
                  refine W_seq ?_
                  refine W_region ?_
                  refine WL_q rfl (ev_move rfl) ?_
                  refine WL_q rfl (ev_move rfl) ?_
                  refine WL_q rfl (ev_neq rfl rfl) ?_
                  refine WL_nil ?_
                  refine thenE_n ?_
                  refine W_cond rfl (fun hg72 => ?_) (fun hg72 => ?_)
                  · have hp72 := of_decide_eq_true hg72
                    refine W_seq ?_
                    refine W_region ?_
                    refine WL_q rfl (ev_assign rfl) ?_
                    refine WL_nil ?_
                    refine thenE_n ?_
                    refine W_ret ?_
                    refine thenE_r ?_
                    refine ret1 rfl rfl ?_
                    first | (exact ⟨rfl, hE⟩) | (exact (bneE hg72 (hr29.det1 hr22)).elim) | (exact absurd (hr29.det1 hr22) hp72) | (exact absurd (hr29.det1 hr22) (of_decide_eq_false hg72)) | (exact (bneE hg72 (hr29.det2 hr22)).elim) | (exact absurd (hr29.det2 hr22) hp72) | (exact absurd (hr29.det2 hr22) (of_decide_eq_false hg72)) | (exact (bneE hg72 (hr29.det3 hr22)).elim) | (exact absurd (hr29.det3 hr22) hp72) | (exact absurd (hr29.det3 hr22) (of_decide_eq_false hg72)) | (exact (tfX hg72).elim) | (exact (decF hg72).elim) | (exfalso; omega)
                  · have hp72 := of_decide_eq_false hg72
                    refine W_skip ?_
                    refine thenE_n ?_
                    refine W_seq ?_
                    refine W_region ?_
                    refine WL_q rfl (ev_loads st25 sz25 rfl (cellsB hB1) rfl) ?_
                    refine WL_m rfl (ev_call rfl (toNetwork_spec _ A _ hA (by omega) (by omega))) ?_
                    rintro _ w75 ⟨h75, rfl, hF75, hE75⟩
                    have hz75 := hE75.size
                    replace hE := hE.trans hE75
                    replace hA := hA.ext hE75
                    replace hB1 := hB1.ext hE75
                    replace hF21 := hF21.ext hE75
                    replace hN21 := hN21.ext hE75
                    replace hx22 := hx22.ext hE75
                    replace hB6 := hB6.ext hE75
                    replace hO29 := hO29.ext hE75
                    replace hF43 := hF43.ext hE75
                    replace hN43 := hN43.ext hE75
                    have hN75 := hF75.is
                    refine WL_m rfl (ev_call rfl (CentresOf_spec _ A _ hN75 (by omega) (by omega))) ?_
                    rintro _ w76 ⟨a76, c76, y76, q76, rfl, hr76, hO76, hl76, hE76⟩
                    have hz76 := hE76.size
                    replace hE := hE.trans hE76
                    replace hA := hA.ext hE76
                    replace hB1 := hB1.ext hE76
                    replace hF21 := hF21.ext hE76
                    replace hN21 := hN21.ext hE76
                    replace hx22 := hx22.ext hE76
                    replace hB6 := hB6.ext hE76
                    replace hO29 := hO29.ext hE76
                    replace hF43 := hF43.ext hE76
                    replace hN43 := hN43.ext hE76
                    replace hF75 := hF75.ext hE76
                    replace hN75 := hN75.ext hE76
                    refine WL_q rfl (ev_move rfl) ?_
                    refine WL_q rfl (ev_extract rfl rfl) ?_
                    refine WL_q rfl (ev_extract rfl rfl) ?_
                    refine WL_q rfl (ev_assign rfl) ?_
                    refine WL_q rfl (ev_assign rfl) ?_
                    refine WL_nil ?_
                    refine thenE_n ?_
                    refine W_seq ?_
                    refine W_seq ?_
                    refine W_region ?_
                    refine WL_q rfl (ev_move rfl) ?_
                    refine WL_q rfl (ev_move rfl) ?_
                    refine WL_m rfl (ev_call rfl (eqIntS_spec _ _ _ _ y76 y22 _ (ownt_i hO76) hx22 (by omega))) ?_
                    rintro _ w81 ⟨rfl, hE81⟩
                    have hz81 := hE81.size
                    replace hE := hE.trans hE81
                    replace hA := hA.ext hE81
                    replace hB1 := hB1.ext hE81
                    replace hF21 := hF21.ext hE81
                    replace hN21 := hN21.ext hE81
                    replace hx22 := hx22.ext hE81
                    replace hB6 := hB6.ext hE81
                    replace hO29 := hO29.ext hE81
                    replace hF43 := hF43.ext hE81
                    replace hN43 := hN43.ext hE81
                    replace hF75 := hF75.ext hE81
                    replace hN75 := hN75.ext hE81
                    replace hO76 := hO76.ext hE81
                    refine WL_q rfl (ev_not rfl) ?_
                    refine WL_q rfl (ev_move rfl) ?_
                    refine WL_splitv (t := 83) rfl (fun hg82 => ?_) (fun hg82 => ?_)
                    · have hg81 := not_true hg82
                      refine WL_no rfl rfl hg82 rfl ?_
                      refine WL_no rfl rfl hg82 rfl ?_
                      refine WL_no rfl rfl hg82 rfl ?_
                      refine WL_q rfl (ev_pick_t rfl hg82 rfl) ?_
                      refine WL_nil ?_
                      refine thenE_n ?_
                      refine W_cond_t rfl ?_
                      refine W_seq ?_
                      refine W_region ?_
                      refine WL_q rfl (ev_assign rfl) ?_
                      refine WL_nil ?_
                      refine thenE_n ?_
                      refine W_ret ?_
                      refine thenE_r ?_
                      refine ret1 rfl rfl ?_
                      first | (exact ⟨rfl, hE⟩) | (exact (bneE hg81 (hr76.det1 hr22)).elim) | (exact absurd (hr76.det1 hr22) hp81) | (exact absurd (hr76.det1 hr22) (of_decide_eq_false hg81)) | (exact (bneE hg81 (hr76.det2 hr22)).elim) | (exact absurd (hr76.det2 hr22) hp81) | (exact absurd (hr76.det2 hr22) (of_decide_eq_false hg81)) | (exact (bneE hg81 (hr76.det3 hr22)).elim) | (exact absurd (hr76.det3 hr22) hp81) | (exact absurd (hr76.det3 hr22) (of_decide_eq_false hg81)) | (exact (bneE hg81 (hr29.det1 hr22)).elim) | (exact absurd (hr29.det1 hr22) hp81) | (exact absurd (hr29.det1 hr22) (of_decide_eq_false hg81)) | (exact (bneE hg81 (hr29.det2 hr22)).elim) | (exact absurd (hr29.det2 hr22) hp81) | (exact absurd (hr29.det2 hr22) (of_decide_eq_false hg81)) | (exact (bneE hg81 (hr29.det3 hr22)).elim) | (exact absurd (hr29.det3 hr22) hp81) | (exact absurd (hr29.det3 hr22) (of_decide_eq_false hg81)) | (exact (tfX hg81).elim) | (exact (decF hg81).elim) | (exfalso; omega)
                    · have hg81 := not_false hg82
                      refine WL_qg rfl rfl hg82 rfl (ev_move rfl) ?_
                      refine WL_qg rfl rfl hg82 rfl (ev_move rfl) ?_
                      refine WL_qg rfl rfl hg82 rfl (ev_neq_b Try.underlying4 rfl rfl) ?_
                      refine WL_q rfl (ev_pick_f rfl hg82 rfl) ?_
                      refine WL_nil ?_
                      refine thenE_n ?_
                      refine W_cond rfl (fun hg86 => ?_) (fun hg86 => ?_)
                      · refine W_seq ?_
                        refine W_region ?_
                        refine WL_q rfl (ev_assign rfl) ?_
                        refine WL_nil ?_
                        refine thenE_n ?_
                        refine W_ret ?_
                        refine thenE_r ?_
                        refine ret1 rfl rfl ?_
                        first | (exact ⟨rfl, hE⟩) | (exact (bneE hg86 (hr76.det1 hr22)).elim) | (exact absurd (hr76.det1 hr22) hp86) | (exact absurd (hr76.det1 hr22) (of_decide_eq_false hg86)) | (exact (bneE hg86 (hr76.det2 hr22)).elim) | (exact absurd (hr76.det2 hr22) hp86) | (exact absurd (hr76.det2 hr22) (of_decide_eq_false hg86)) | (exact (bneE hg86 (hr76.det3 hr22)).elim) | (exact absurd (hr76.det3 hr22) hp86) | (exact absurd (hr76.det3 hr22) (of_decide_eq_false hg86)) | (exact (bneE hg86 (hr29.det1 hr22)).elim) | (exact absurd (hr29.det1 hr22) hp86) | (exact absurd (hr29.det1 hr22) (of_decide_eq_false hg86)) | (exact (bneE hg86 (hr29.det2 hr22)).elim) | (exact absurd (hr29.det2 hr22) hp86) | (exact absurd (hr29.det2 hr22) (of_decide_eq_false hg86)) | (exact (bneE hg86 (hr29.det3 hr22)).elim) | (exact absurd (hr29.det3 hr22) hp86) | (exact absurd (hr29.det3 hr22) (of_decide_eq_false hg86)) | (exact (tfX hg86).elim) | (exact (decF hg86).elim) | (exfalso; omega)
                      · refine W_skip ?_
                        refine thenE_n ?_
                        refine W_seq ?_
                        refine W_region ?_
                        refine WL_q rfl (ev_assign rfl) ?_
                        refine WL_nil ?_
                        refine thenE_n ?_
                        refine W_seq ?_
                        refine W_region ?_
                        refine WL_q rfl (ev_move rfl) ?_
                        refine WL_q rfl (ev_move rfl) ?_
                        refine WL_m rfl (ev_call rfl (heldIntS_spec _ _ (nums 1 y29.length) _ _ (Ints.of_own (nums_len _ _) hO29.1) rfl (by omega) (by omega))) ?_
                        rintro _ w90 ⟨rfl, hE90⟩
                        have hz90 := hE90.size
                        replace hE := hE.trans hE90
                        replace hA := hA.ext hE90
                        replace hB1 := hB1.ext hE90
                        replace hF21 := hF21.ext hE90
                        replace hN21 := hN21.ext hE90
                        replace hx22 := hx22.ext hE90
                        replace hB6 := hB6.ext hE90
                        replace hO29 := hO29.ext hE90
                        replace hF43 := hF43.ext hE90
                        replace hN43 := hN43.ext hE90
                        replace hF75 := hF75.ext hE90
                        replace hN75 := hN75.ext hE90
                        replace hO76 := hO76.ext hE90
                        refine WL_q rfl (ev_assign rfl) ?_
                        refine WL_nil ?_
                        refine thenE_n ?_
                        refine W_seq ?_
                        refine W_seq ?_
                        refine W_region ?_
                        refine WL_q rfl (ev_move rfl) ?_
                        refine WL_q rfl (ev_lss rfl rfl) ?_
                        refine WL_nil ?_
                        refine thenE_n ?_
                        refine W_cond rfl (fun hg92 => ?_) (fun hg92 => ?_)
                        · have hp92 := of_decide_eq_true hg92
                          refine W_seq ?_
                          refine W_region ?_
                          refine WL_q rfl (ev_assign rfl) ?_
                          refine WL_nil ?_
                          refine thenE_n ?_
                          refine W_ret ?_
                          refine thenE_r ?_
                          refine ret1 rfl rfl ?_
                          first | (exact ⟨rfl, hE⟩) | (exact (bneE hg92 (hr76.det1 hr22)).elim) | (exact absurd (hr76.det1 hr22) hp92) | (exact absurd (hr76.det1 hr22) (of_decide_eq_false hg92)) | (exact (bneE hg92 (hr76.det2 hr22)).elim) | (exact absurd (hr76.det2 hr22) hp92) | (exact absurd (hr76.det2 hr22) (of_decide_eq_false hg92)) | (exact (bneE hg92 (hr76.det3 hr22)).elim) | (exact absurd (hr76.det3 hr22) hp92) | (exact absurd (hr76.det3 hr22) (of_decide_eq_false hg92)) | (exact (bneE hg92 (hr29.det1 hr22)).elim) | (exact absurd (hr29.det1 hr22) hp92) | (exact absurd (hr29.det1 hr22) (of_decide_eq_false hg92)) | (exact (bneE hg92 (hr29.det2 hr22)).elim) | (exact absurd (hr29.det2 hr22) hp92) | (exact absurd (hr29.det2 hr22) (of_decide_eq_false hg92)) | (exact (bneE hg92 (hr29.det3 hr22)).elim) | (exact absurd (hr29.det3 hr22) hp92) | (exact absurd (hr29.det3 hr22) (of_decide_eq_false hg92)) | (exact (tfX hg92).elim) | (exact (decF hg92).elim) | (exfalso; omega)
                        · have hp92 := of_decide_eq_false hg92
                          refine W_skip ?_
                          refine thenE_n ?_
                          refine W_seq ?_
                          refine W_seq ?_
                          refine W_region ?_
                          refine WL_q rfl (ev_move rfl) ?_
                          refine WL_q rfl (ev_move rfl) ?_
                          refine WL_q rfl (ev_neq rfl rfl) ?_
                          refine WL_nil ?_
                          refine thenE_n ?_
                          refine W_cond rfl (fun hg95 => ?_) (fun hg95 => ?_)
                          · have hp95 := of_decide_eq_true hg95
                            refine W_seq ?_
                            refine W_region ?_
                            refine WL_q rfl (ev_assign rfl) ?_
                            refine WL_nil ?_
                            refine thenE_n ?_
                            refine W_ret ?_
                            refine thenE_r ?_
                            refine ret1 rfl rfl ?_
                            first | (exact ⟨rfl, hE⟩) | (exact (bneE hg95 (hr76.det1 hr22)).elim) | (exact absurd (hr76.det1 hr22) hp95) | (exact absurd (hr76.det1 hr22) (of_decide_eq_false hg95)) | (exact (bneE hg95 (hr76.det2 hr22)).elim) | (exact absurd (hr76.det2 hr22) hp95) | (exact absurd (hr76.det2 hr22) (of_decide_eq_false hg95)) | (exact (bneE hg95 (hr76.det3 hr22)).elim) | (exact absurd (hr76.det3 hr22) hp95) | (exact absurd (hr76.det3 hr22) (of_decide_eq_false hg95)) | (exact (bneE hg95 (hr29.det1 hr22)).elim) | (exact absurd (hr29.det1 hr22) hp95) | (exact absurd (hr29.det1 hr22) (of_decide_eq_false hg95)) | (exact (bneE hg95 (hr29.det2 hr22)).elim) | (exact absurd (hr29.det2 hr22) hp95) | (exact absurd (hr29.det2 hr22) (of_decide_eq_false hg95)) | (exact (bneE hg95 (hr29.det3 hr22)).elim) | (exact absurd (hr29.det3 hr22) hp95) | (exact absurd (hr29.det3 hr22) (of_decide_eq_false hg95)) | (exact (tfX hg95).elim) | (exact (decF hg95).elim) | (exfalso; omega)
                          · have hp95 := of_decide_eq_false hg95
                            refine W_skip ?_
                            refine thenE_n ?_
                            refine W_seq ?_
                            refine W_region ?_
                            refine WL_q rfl (ev_assign rfl) ?_
                            refine WL_nil ?_
                            refine thenE_n ?_
                            refine W_ret ?_
                            refine ret1 rfl rfl ?_
                            first | (exact ⟨rfl, hE⟩) | (exact (bneE hg95 (hr76.det1 hr22)).elim) | (exact absurd (hr76.det1 hr22) hp95) | (exact absurd (hr76.det1 hr22) (of_decide_eq_false hg95)) | (exact (bneE hg95 (hr76.det2 hr22)).elim) | (exact absurd (hr76.det2 hr22) hp95) | (exact absurd (hr76.det2 hr22) (of_decide_eq_false hg95)) | (exact (bneE hg95 (hr76.det3 hr22)).elim) | (exact absurd (hr76.det3 hr22) hp95) | (exact absurd (hr76.det3 hr22) (of_decide_eq_false hg95)) | (exact (bneE hg95 (hr29.det1 hr22)).elim) | (exact absurd (hr29.det1 hr22) hp95) | (exact absurd (hr29.det1 hr22) (of_decide_eq_false hg95)) | (exact (bneE hg95 (hr29.det2 hr22)).elim) | (exact absurd (hr29.det2 hr22) hp95) | (exact absurd (hr29.det2 hr22) (of_decide_eq_false hg95)) | (exact (bneE hg95 (hr29.det3 hr22)).elim) | (exact absurd (hr29.det3 hr22) hp95) | (exact absurd (hr29.det3 hr22) (of_decide_eq_false hg95)) | (exact (tfX hg95).elim) | (exact (decF hg95).elim) | (exfalso; omega)

end Go.Proofs.Ytgnlfhggebijcaa
