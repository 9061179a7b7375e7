/- Contracts of ComponentsOf and CentresOf, of the program and of the reference; the walks of their laws. -/
import Derived.Test.YtoeencgofelgoaaDist
namespace Go.Proofs.Ytoeencgofelgoaa
open Go Go.RowKit

set_option maxHeartbeats 4000000 in
set_option maxRecDepth 100000 in
theorem components_spec {loA hiA : Nat} (nA : NA) (A : Net) (w : World) (hA : IsNet loA hiA w nA A) (hhiA : hiA ≤ w.heap.size) (hnA : totN A ≤ 1048576) (hk : EndsOk A.ends) (hs : SymE A.ends) (h40 : A.ends.length ≤ 40) (h0 : 0 < A.ends.length) :
    Fn Try.prog 79 #[netV nA A] w (fun o9 w' => ∃ a' c', o9 = .slice a' (prt A.ends).length c' ∧ Own w.heap.size w' 3 1 a' (prt A.ends).length c' ((prt A.ends).map VI) ∧ Ext w w') := by
  have hqA := totL_len A.ends
  have hmA : totL A.ends + A.ids.length + A.inputs.length ≤ 1048576 := hnA
  have hpl := prt_len A.ends
  have hcp := cmp_prt hk hs h40
  have hE := Ext.refl w
  refine Fn_of Try.func79 rfl rfl (by kernel_rfl) rfl ?_
  refine W_seq ?_
  refine W_region ?_
  refine WL_m rfl (ev_box rfl) ?_
  rintro _ w1 ⟨rfl, hN1⟩
  have hz1 := hN1.size
  replace hE := hE.trans hN1.ext
  replace hA := hA.ext hN1.ext
  have hB1 : Blk w1 _ _ [_, _, _] := hN1.blk
  refine WL_q rfl (ev_assign rfl) ?_
  refine WL_nil ?_
  refine thenE_n ?_
  refine W_seq ?_
  refine W_region ?_
  refine WL_m rfl (ev_lit1 Try.underlying23 el3 (by decide) (by decide) rfl rfl) ?_
  rintro _ w7 ⟨rfl, hN7⟩
  have hz7 := hN7.size
  replace hE := hE.trans hN7.ext
  replace hA := hA.ext hN7.ext
  replace hB1 := hB1.ext hN7.ext
  have hB7 := hN7.blk
  refine WL_q rfl (ev_fieldAddr fo31_0 rfl) ?_
  refine WL_q rfl (ev_load one29 rfl (hB1.cell rfl)) ?_
  refine WL_q rfl (ev_len Try.underlying29 rfl) ?_
  refine WL_m rfl (ev_call rfl (Repeat_one _ _ (-1) A.ends.length _ (Blk.ints (ys := [-1]) hB7 (by simp)) (by omega) (by omega) (by omega))) ?_
  rintro _ w11 ⟨rfl, hR11, hE11⟩
  have hz11 := hE11.size
  replace hE := hE.trans hE11
  replace hA := hA.ext hE11
  replace hB1 := hB1.ext hE11
  replace hB7 := hB7.ext hE11
  have hb11 := hR11.lt
  refine WL_q rfl (ev_assign rfl) ?_
  refine WL_nil ?_
  refine thenE_n ?_
  refine W_seq ?_
  refine W_seq ?_
  refine W_region ?_
  refine WL_q rfl (ev_move rfl) ?_
  refine WL_q rfl (ev_len Try.underlying23 rfl) ?_
  refine WL_q rfl (ev_move rfl) ?_
  refine WL_nil ?_
  refine thenE_n ?_
  refine W_block ?_
  refine W_loopC (G := Nat) [(1, _), (3, _), (13, _)] ((Subs.c rfl (Subs.c rfl (Subs.c rfl Subs.n)))) (fun i => [(14, VI (i : Int))]) (fun i w' => KX (w7.heap.size) w11 w' ∧ i ≤ A.ends.length ∧ Blk w' w7.heap.size 3 ((cmpN A.ends i).map VI)) (fun i => A.ends.length - i) 0 ((Subs.c (lkI rfl (by omega)) Subs.n)) (⟨KX.refl _ _, ⟨Nat.zero_le _, by rw [cmpN_zero]; exact hR11⟩⟩) ?_
  rintro i wL0 ⟨hRL0, hi', hBk⟩
  have hzL0 := hRL0.size
  replace hA := hA.kx hRL0 (by omega)
  replace hB1 := hB1.kx hRL0 (by omega)
  replace hB7 := hB7.kx hRL0 (by omega)
  replace hE := hE.kx hRL0 (by omega)
  have hcl := cmpN_len A.ends i
  refine W_seq ?_
  refine W_region ?_
  refine WL_q rfl (ev_lss rfl rfl) ?_
  refine WL_nil ?_
  refine thenE_n ?_
  refine W_seq ?_
  refine W_cond rfl (fun hg15 => ?_) (fun hg15 => ?_)
  · have hp15 := of_decide_eq_true hg15
    refine W_skip ?_
    refine thenE_n ?_
    refine W_seq ?_
    refine W_block ?_
    refine W_seq ?_
    refine W_region ?_
    refine WL_q rfl (ev_move rfl) ?_
    refine WL_q rfl (ev_assign rfl) ?_
    refine WL_nil ?_
    refine thenE_n ?_
    refine W_seq ?_
    refine W_seq ?_
    refine W_region ?_
    refine WL_q rfl (ev_move rfl) ?_
    refine WL_q rfl (ev_move rfl) ?_
    have hlt : i < A.ends.length := by omega
    refine WL_q rfl (ev_indexAddr Try.underlying23 sz3 rfl rfl rfl (by omega) (by omega)) ?_
    refine WL_q rfl (ev_load one3 rfl (icell hBk (i := i) (by omega) (by omega))) ?_
    refine WL_q rfl (ev_geq rfl rfl) ?_
    refine WL_nil ?_
    refine thenE_n ?_
    refine W_cond rfl (fun hg21 => ?_) (fun hg21 => ?_)
    · have hp21 := of_decide_eq_true hg21
      refine W_exit ?_
      refine thenE_x ?_
      refine blockE_hit ?_
      refine thenE_n ?_
      refine W_region ?_
      refine WL_q rfl (ev_add rfl rfl (by omega)) ?_
      refine WL_q rfl (ev_move rfl) ?_
      refine WL_nil ?_
      refine thenE_n ?_
      rw [cmpN_skip hk hlt (by omega) hp21] at hBk
      exact ⟨i + 1, (Subs.c rfl (Subs.c rfl (Subs.c rfl Subs.n))), (Subs.c (lkI rfl (by omega)) Subs.n), ⟨hRL0, ⟨by omega, hBk⟩⟩, by first | omega | (dsimp only; omega)⟩
    · have hp21 := of_decide_eq_false hg21
      refine W_skip ?_
      refine thenE_n ?_
      refine W_seq ?_
      refine W_region ?_
      refine WL_q rfl (ev_loads st31 sz31 rfl (cellsB hB1) rfl) ?_
      refine WL_q rfl (ev_move rfl) ?_
      have hl0 := bfs_len hk (v := (i : Int)) (by omega) (by omega)
      refine WL_m rfl (ev_call rfl (dist_spec _ A _ _ hA (by omega) (by omega) (by assumption) (by omega))) ?_
      rintro _ w24 ⟨a24, c24, rfl, hO24, hE24⟩
      have hz24 := hE24.size
      replace hE := hE.trans hE24
      replace hRL0 := hRL0.trans hE24
      replace hA := hA.ext hE24
      replace hB1 := hB1.ext hE24
      replace hB7 := hB7.ext hE24
      replace hBk := hBk.ext hE24
      have hI24 := own_i hO24
      refine WL_q rfl (ev_len Try.underlying23 rfl) ?_
      refine WL_q rfl (ev_move rfl) ?_
      refine WL_nil ?_
      refine thenE_n ?_
      refine W_block ?_
      refine W_loopC (G := Nat) [(1, _), (3, _), (4, _), (13, _), (14, _), (24, _), (25, _)] ((Subs.c rfl (Subs.c rfl (Subs.c rfl (Subs.c rfl (Subs.c rfl (Subs.c rfl (Subs.c rfl Subs.n)))))))) (fun k => [(26, VI (k : Int))]) (fun k w' => KX (w7.heap.size) w24 w' ∧ k ≤ A.ends.length ∧ Blk w' w7.heap.size 3 ((cmpK A.ends i k).map VI)) (fun k => A.ends.length - k) 0 ((Subs.c (lkI rfl (by omega)) Subs.n)) (⟨KX.refl _ _, ⟨Nat.zero_le _, by rw [cmpK_zero]; exact hBk⟩⟩) ?_
      rintro k wL2 ⟨hRL2, hk', hBk⟩
      have hzL2 := hRL2.size
      replace hA := hA.kx hRL2 (by omega)
      replace hB1 := hB1.kx hRL2 (by omega)
      replace hB7 := hB7.kx hRL2 (by omega)
      replace hI24 := hI24.kx hRL2 (by omega)
      replace hE := hE.kx hRL2 (by omega)
      replace hRL0 := hRL0.kx hRL2 (by omega)
      have hkl := cmpK_len A.ends i k
      refine W_seq ?_
      refine W_region ?_
      refine WL_q rfl (ev_lss rfl rfl) ?_
      refine WL_nil ?_
      refine thenE_n ?_
      refine W_seq ?_
      refine W_cond rfl (fun hg27 => ?_) (fun hg27 => ?_)
      · have hp27 := of_decide_eq_true hg27
        refine W_skip ?_
        refine thenE_n ?_
        refine W_seq ?_
        refine W_block ?_
        refine W_seq ?_
        refine W_region ?_
        refine WL_q rfl (ev_move rfl) ?_
        have hlk : k < (bfs A.ends (i : Int)).length := by omega
        refine WL_q rfl (ev_indexAddr Try.underlying23 sz3 rfl rfl (hI24.isSome (by omega)) (by omega) (by omega)) ?_
        refine WL_q rfl (ev_load one3 rfl (hI24.cell (i := k) (by omega))) ?_
        refine WL_q rfl (ev_assign rfl) ?_
        refine WL_q rfl (ev_assign rfl) ?_
        refine WL_nil ?_
        refine thenE_n ?_
        refine W_seq ?_
        refine W_region ?_
        refine WL_q rfl (ev_move rfl) ?_
        refine WL_q rfl (ev_geq rfl rfl) ?_
        refine WL_nil ?_
        refine thenE_n ?_
        refine W_cond rfl (fun hg32 => ?_) (fun hg32 => ?_)
        · have hp32 := of_decide_eq_true hg32
          refine W_region ?_
          refine WL_q rfl (ev_move rfl) ?_
          refine WL_q rfl (ev_move rfl) ?_
          refine WL_q rfl (ev_move rfl) ?_
          refine WL_q rfl (ev_indexAddr Try.underlying23 sz3 rfl rfl rfl (by omega) (by omega)) ?_
          refine WL_s (ev_store sz3 rfl rfl rfl hBk (by simp; omega)) ?_
          rintro _ w10_4 hS10_4
          have hz10_4 := hS10_4.size
          replace hE := hE.sto hS10_4 (by omega)
          replace hRL0 := hRL0.sto hS10_4 (by omega)
          replace hRL2 := hRL2.sto hS10_4 (by omega)
          replace hA := hA.sto hS10_4 (by omega)
          replace hB1 := hB1.sto hS10_4 (by omega)
          replace hB7 := hB7.sto hS10_4 (by omega)
          replace hI24 := hI24.sto hS10_4 (by omega)
          replace hBk := hS10_4.blk
          replace hBk := iset (i := k) (by omega) hBk
          refine WL_nil ?_
          refine blockE_n ?_
          refine thenE_n ?_
          refine W_region ?_
          refine WL_q rfl (ev_add rfl rfl (by omega)) ?_
          refine WL_q rfl (ev_move rfl) ?_
          refine WL_nil ?_
          refine thenE_n ?_
          rw [cmpK_yes (by rw [getD_eq hlk]; exact hp32)] at hBk
          exact ⟨k + 1, (Subs.c rfl (Subs.c rfl (Subs.c rfl (Subs.c rfl (Subs.c rfl (Subs.c rfl (Subs.c rfl Subs.n))))))), (Subs.c (lkI rfl (by omega)) Subs.n), ⟨hRL2, ⟨by omega, hBk⟩⟩, by first | omega | (dsimp only; omega)⟩
        · have hp32 := of_decide_eq_false hg32
          refine W_skip ?_
          refine blockE_n ?_
          refine thenE_n ?_
          refine W_region ?_
          refine WL_q rfl (ev_add rfl rfl (by omega)) ?_
          refine WL_q rfl (ev_move rfl) ?_
          refine WL_nil ?_
          refine thenE_n ?_
          rw [cmpK_no (by rw [getD_eq hlk]; exact hp32)] at hBk
          exact ⟨k + 1, (Subs.c rfl (Subs.c rfl (Subs.c rfl (Subs.c rfl (Subs.c rfl (Subs.c rfl (Subs.c rfl Subs.n))))))), (Subs.c (lkI rfl (by omega)) Subs.n), ⟨hRL2, ⟨by omega, hBk⟩⟩, by first | omega | (dsimp only; omega)⟩
      · have hp27 := of_decide_eq_false hg27
        refine W_exit ?_
        refine thenE_x ?_
        refine thenE_x ?_
        refine blockE_hit ?_
        refine blockE_n ?_
        refine thenE_n ?_
        refine W_region ?_
        refine WL_q rfl (ev_add rfl rfl (by omega)) ?_
        refine WL_q rfl (ev_move rfl) ?_
        refine WL_nil ?_
        refine thenE_n ?_
        rw [cmpN_name hk hs hlt (by omega) hp21 (by omega)] at hBk
        exact ⟨i + 1, (Subs.c rfl (Subs.c rfl (Subs.c rfl Subs.n))), (Subs.c (lkI rfl (by omega)) Subs.n), ⟨hRL0, ⟨by omega, hBk⟩⟩, by first | omega | (dsimp only; omega)⟩
  · have hp15 := of_decide_eq_false hg15
    refine W_exit ?_
    refine thenE_x ?_
    refine thenE_x ?_
    refine blockE_hit ?_
    refine thenE_n ?_
    refine W_seq ?_
    refine W_region ?_
    refine WL_q rfl (ev_move rfl) ?_
    refine WL_q rfl (ev_assign rfl) ?_
    refine WL_nil ?_
    refine thenE_n ?_
    refine W_ret ?_
    refine ret1 rfl rfl ?_
    have hi9 : i = A.ends.length := by omega
    subst hi9
    rw [hcp] at hBk
    exact ⟨_, _, by rw [hpl], (by rw [hpl]; exact own_of_blk hBk (by omega) (by simp; omega) (by omega)), hE⟩

def cen (A : Net) : List Int := cenN (eccM A) (lmin (eccM A)) A.ends.length
theorem eccM_le {A : Net} (hk : EndsOk A.ends) (h40 : A.ends.length ≤ 40) {v : Nat} (h : v < (eccM A).length) : 0 ≤ (eccM A)[v] ∧ (eccM A)[v] ≤ 40 := by
  have hv : v < A.ends.length := by rw [eccM_len] at h; exact h
  simp only [eccM, List.getElem_map, List.getElem_range]
  exact mmax_rng (m := 40) (by omega) (fun d hd => by have := bfs_rng hk (v := (v : Int)) (by omega) (by simpa using hv) d hd; omega)
theorem ecc_at {A : Net} {v : Nat} (h : v < (eccM A).length) : mmax (bfs A.ends (v : Int)) = (eccM A)[v] := by simp [eccM]
theorem eccL_at {A : Net} {v : Nat} (h : v < (eccL A).length) : lmax (bfs A.ends (v : Int)) = (eccL A)[v] := by simp [eccL]
theorem cen_eq {A : Net} (hk : EndsOk A.ends) (h40 : A.ends.length ≤ 40) (h0 : 0 < A.ends.length) : cenN (eccM A) (mnN 40 (eccM A) A.ends.length) A.ends.length = cen A := by
  have hl := eccM_len A
  have h1 := mnN_all (b := 40) (E := eccM A) (by omega) (eccM_le hk h40 (by omega)).2
  rw [hl] at h1
  rw [h1]; rfl
theorem cen_len (A : Net) : (cen A).length ≤ A.ends.length := cenN_len _ _ _

end Go.Proofs.Ytoeencgofelgoaa
