/- Contract of impl.OddClosedWalk; the walk of FnExactOddClosedWalk. -/
import Derived.Test.YtnngpblegbjfdaaOdd3
import Derived.Test.YtnngpblegbjfdaaOdd5
namespace Go.Proofs.Ytnngpblegbjfdaa
open Go Go.RowKit

theorem bfsD_len {ends : Ends} (hk : EndsOk ends) {v : Nat} (hv : v < ends.length) : (bfs (dbl ends) ((2 * v : Nat) : Int)).length = 2 * ends.length := by
  rw [bfs_len (dbl_ok hk) (by omega) (by rw [dbl_len]; omega), dbl_len]
theorem dpt_at {ends : Ends} {v x p : Nat} (h : 2 * x + p < (bfs (dbl ends) ((2 * v : Nat) : Int)).length) : (bfs (dbl ends) ((2 * v : Nat) : Int))[2 * x + p] = dpt ends v x p := by
  unfold dpt; rw [getD_eq h]
theorem OMi.pos {ends : Ends} {n : Nat} {st le : Int} (h : OMi ends n st le) (h0 : 0 ≤ st) : 0 < le := by
  rcases h with ⟨h2, _⟩ | ⟨s, h2, h3, h4, h5, _⟩
  · omega
  · exact h5
theorem OMi.neg {ends : Ends} {n : Nat} {st le : Int} (h : OMi ends n st le) (h0 : st < 0) : ∀ v, v < n → ¬ 0 < oD ends v := by
  rcases h with ⟨_, h3⟩ | ⟨s, h2, h3, h4, h5, _⟩
  · exact h3
  · omega
theorem near_q {ends : Ends} {v j : Nat} (hv : v < ends.length) (hj : j < ends[v].length) : (near ends (v : Int))[j]? = some ends[v][j].1 := by
  rw [near_get (by simpa using hv)]
  simp [hj]
theorem near_lenN {ends : Ends} {v : Nat} (hv : v < ends.length) : (near ends (v : Int)).length = ends[v].length := by
  have := near_len (ends := ends) (x := (v : Int)) (by simpa using hv)
  simpa using this

set_option maxHeartbeats 1000000 in
set_option maxRecDepth 100000 in
theorem OddW_spec {loA hiA : Nat} (nA : NA) (A : Net) (w : World) (hA : IsNet loA hiA w nA A) (hhiA : hiA ≤ w.heap.size) (hnA : totN A ≤ 1048576) :
    Fn Try.prog 11 #[netV nA A] w (fun o9 w' => ∃ a' c' ys q, o9 = .tuple #[.slice a' ys.length c', VB q] ∧ OW A ys q ∧ OwnH w.heap.size w'.heap.size 0 0 w' 3 1 a' ys.length c' (ys.map VI) ∧ ys.length ≤ 1048576 ∧ Ext w w') := by
  have hqA := totL_len A.ends
  have hmA : totL A.ends + A.ids.length + A.inputs.length ≤ 1048576 := hnA
  have hE := Ext.refl w
  refine Fn_of Try.func11 rfl rfl (by kernel_rfl) rfl ?_
  refine W_seq ?_
  refine W_region ?_
  refine WL_m rfl (ev_box rfl) ?_
  rintro _ w1 ⟨rfl, hN1⟩
  have hz1 := hN1.size
  replace hE := hE.trans hN1.ext
  replace hA := hA.ext hN1.ext
  have hB1 : Blk w1 _ _ [_, _, _] := hN1.blk
  refine WL_q rfl (ev_assign rfl) ?_
  refine WL_q rfl (ev_assign rfl) ?_
  refine WL_nil ?_
  refine thenE_n ?_
  refine W_seq ?_
  refine W_seq ?_
  refine W_region ?_
  refine WL_q rfl (ev_loads st31 sz31 rfl (cellsB hB1) rfl) ?_
  refine WL_m rfl (ev_call rfl (IsNetwork_spec _ A _ hA (by omega) (by omega))) ?_
  rintro _ w16 ⟨b16, rfl, hb16, hE16⟩
  have hz16 := hE16.size
  replace hE := hE.trans hE16
  replace hA := hA.ext hE16
  replace hB1 := hB1.ext hE16
  refine WL_q rfl (ev_not rfl) ?_
  refine WL_nil ?_
  refine thenE_n ?_
  refine W_cond rfl (fun hg17 => ?_) (fun hg17 => ?_)
  · have hg16 := not_true hg17
    have hp16 := ttN hb16 hg16
    refine W_seq ?_
    refine W_region ?_
    refine WL_q rfl (ev_assign rfl) ?_
    refine WL_q rfl (ev_assign rfl) ?_
    refine WL_nil ?_
    refine thenE_n ?_
    refine W_ret ?_
    refine thenE_r ?_
    refine ret2 rfl rfl rfl ?_
    first | (exact ⟨none, 0, [], _, rfl, .inl ⟨rfl, rfl, fun h => absurd h hp16⟩, OwnH.nil, by simp, hE⟩) | (exact ⟨none, 0, [], _, rfl, .inl ⟨rfl, rfl, fun _ => by have hi9 : i = A.ends.length := (by omega); subst hi9; exact hOM.neg hp46⟩, OwnH.nil, by simp, hE⟩) | (have hm9 : m = b := (by omega); subst hm9; exact ⟨_, _, _, _, rfl, .inr ⟨rfl, hkA, s, m, hOM, rfl⟩, hO.up (by omega) (Nat.le_refl _), by omega, hE⟩)
  · have hg16 := not_false hg17
    have hp16 := hb16.1 hg16
    refine W_skip ?_
    refine thenE_n ?_
    refine W_seq ?_
    refine W_region ?_
    have hkA := hp16
    have hndA := hkA.nodes
    have hk9 := hkA.endsOk
    have hs9 := hkA.sym
    refine WL_q rfl (ev_assign rfl) ?_
    refine WL_q rfl (ev_assign rfl) ?_
    refine WL_nil ?_
    refine thenE_n ?_
    refine W_seq ?_
    refine W_seq ?_
    refine W_region ?_
    refine WL_q rfl (ev_fieldAddr fo31_0 rfl) ?_
    refine WL_q rfl (ev_load one29 rfl (hB1.cell rfl)) ?_
    refine WL_q rfl (ev_len Try.underlying29 rfl) ?_
    refine WL_q rfl (ev_move rfl) ?_
    refine WL_nil ?_
    refine thenE_n ?_
    refine W_block ?_
    refine W_loopC (G := Nat × Int × Int) [(1, _), (20, _)] ((Subs.c rfl (Subs.c rfl Subs.n))) (fun ⟨i, sT, lE⟩ => [(4, VI sT), (5, VI lE), (21, VI (i : Int))]) (fun ⟨i, sT, lE⟩ w' => Ext w16 w' ∧ i ≤ A.ends.length ∧ OMi A.ends i sT lE) (fun g => A.ends.length - g.1) (0, -1, 0) ((Subs.c rfl (Subs.c rfl (Subs.c (lkI rfl (by omega)) Subs.n)))) (⟨Ext.refl _, ⟨Nat.zero_le _, OMi.zero⟩⟩) ?_
    rintro ⟨i, sT, lE⟩ wL0 ⟨hRL0, hi', hOM⟩
    have hzL0 := hRL0.size
    replace hE := hE.trans hRL0
    replace hA := hA.ext hRL0
    replace hB1 := hB1.ext hRL0
    refine W_seq ?_
    refine W_region ?_
    refine WL_q rfl (ev_lss rfl rfl) ?_
    refine WL_nil ?_
    refine thenE_n ?_
    refine W_seq ?_
    refine W_cond rfl (fun hg22 => ?_) (fun hg22 => ?_)
    · have hp22 := of_decide_eq_true hg22
      refine W_skip ?_
      refine thenE_n ?_
      refine W_seq ?_
      refine W_block ?_
      refine W_seq ?_
      refine W_region ?_
      refine WL_q rfl (ev_move rfl) ?_
      refine WL_q rfl (ev_assign rfl) ?_
      refine WL_nil ?_
      refine thenE_n ?_
      refine W_seq ?_
      refine W_region ?_
      refine WL_q rfl (ev_loads st31 sz31 rfl (cellsB hB1) rfl) ?_
      refine WL_q rfl (ev_move rfl) ?_
      have hlt : i < A.ends.length := by omega
      refine WL_m rfl (ev_call rfl (par_spec _ A i _ hA (by omega) (by omega) (by omega) hk9 hlt)) ?_
      rintro _ w26 ⟨b26, rfl, hP26, hb26, hE26⟩
      have hz26 := hE26.size
      replace hE := hE.trans hE26
      replace hRL0 := hRL0.trans hE26
      replace hA := hA.ext hE26
      replace hB1 := hB1.ext hE26
      have hbl26 := bfsD_len hk9 hlt
      refine WL_q rfl (ev_move rfl) ?_
      refine WL_q rfl (ev_indexAddr Try.underlying53 sz52 rfl rfl rfl (by omega) (by omega)) ?_
      refine WL_q rfl (ev_indexAddrA Try.underlying52 sz3 rfl rfl (by omega) (by omega)) ?_
      refine WL_q rfl (ev_load one3 rfl (icell hP26 (i := 2 * i + 1) (by omega) (by omega))) ?_
      have hod : (bfs (dbl A.ends) ((2 * i : Nat) : Int))[2 * i + 1]'(by omega) = oD A.ends i := dpt_at (by omega)
      rw [hod]
      refine WL_q rfl (ev_assign rfl) ?_
      refine WL_nil ?_
      refine thenE_n ?_
      refine W_seq ?_
      refine W_region ?_
      refine WL_q rfl (ev_move rfl) ?_
      refine WL_q rfl (ev_gtr rfl rfl) ?_
      refine WL_q rfl (ev_move rfl) ?_
      refine WL_splitv (t := 33) rfl (fun hg32 => ?_) (fun hg32 => ?_)
      · have hp32 := of_decide_eq_true hg32
        refine WL_qg rfl rfl hg32 rfl (ev_move rfl) ?_
        refine WL_qg rfl rfl hg32 rfl (ev_lss rfl rfl) ?_
        refine WL_qg rfl rfl hg32 rfl (ev_move rfl) ?_
        refine WL_splitv (t := 36) rfl (fun hg35 => ?_) (fun hg35 => ?_)
        · have hp35 := of_decide_eq_true hg35
          refine WL_no rfl rfl hg35 rfl ?_
          refine WL_no rfl rfl hg35 rfl ?_
          refine WL_no rfl rfl hg35 rfl ?_
          refine WL_qg rfl rfl hg32 rfl (ev_pick_t rfl hg35 rfl) ?_
          refine WL_q rfl (ev_pick_t rfl hg32 rfl) ?_
          refine WL_nil ?_
          refine thenE_n ?_
          refine W_cond_t rfl ?_
          refine W_region ?_
          refine WL_q rfl (ev_move rfl) ?_
          refine WL_q rfl (ev_move rfl) ?_
          refine WL_q rfl (ev_assign rfl) ?_
          refine WL_q rfl (ev_assign rfl) ?_
          refine WL_nil ?_
          refine blockE_n ?_
          refine thenE_n ?_
          refine W_region ?_
          refine WL_q rfl (ev_add rfl rfl (by omega)) ?_
          refine WL_q rfl (ev_move rfl) ?_
          refine WL_nil ?_
          refine thenE_n ?_
          exact ⟨(i + 1, (i : Int), oD A.ends i), (Subs.c rfl (Subs.c rfl Subs.n)), (Subs.c rfl (Subs.c rfl (Subs.c (lkI rfl (by omega)) Subs.n))), ⟨hRL0, ⟨by omega, hOM.new (by omega) (by omega)⟩⟩, by first | omega | (dsimp only; omega)⟩
        · have hp35 := of_decide_eq_false hg35
          refine WL_qg rfl rfl hg35 rfl (ev_move rfl) ?_
          refine WL_qg rfl rfl hg35 rfl (ev_move rfl) ?_
          refine WL_qg rfl rfl hg35 rfl (ev_lss rfl rfl) ?_
          refine WL_qg rfl rfl hg32 rfl (ev_pick_f rfl hg35 rfl) ?_
          refine WL_q rfl (ev_pick_t rfl hg32 rfl) ?_
          refine WL_nil ?_
          refine thenE_n ?_
          refine W_cond rfl (fun hg39 => ?_) (fun hg39 => ?_)
          · have hp39 := of_decide_eq_true hg39
            refine W_region ?_
            refine WL_q rfl (ev_move rfl) ?_
            refine WL_q rfl (ev_move rfl) ?_
            refine WL_q rfl (ev_assign rfl) ?_
            refine WL_q rfl (ev_assign rfl) ?_
            refine WL_nil ?_
            refine blockE_n ?_
            refine thenE_n ?_
            refine W_region ?_
            refine WL_q rfl (ev_add rfl rfl (by omega)) ?_
            refine WL_q rfl (ev_move rfl) ?_
            refine WL_nil ?_
            refine thenE_n ?_
            exact ⟨(i + 1, (i : Int), oD A.ends i), (Subs.c rfl (Subs.c rfl Subs.n)), (Subs.c rfl (Subs.c rfl (Subs.c (lkI rfl (by omega)) Subs.n))), ⟨hRL0, ⟨by omega, hOM.new (by omega) (by omega)⟩⟩, by first | omega | (dsimp only; omega)⟩
          · have hp39 := of_decide_eq_false hg39
            refine W_skip ?_
            refine blockE_n ?_
            refine thenE_n ?_
            refine W_region ?_
            refine WL_q rfl (ev_add rfl rfl (by omega)) ?_
            refine WL_q rfl (ev_move rfl) ?_
            refine WL_nil ?_
            refine thenE_n ?_
            exact ⟨(i + 1, sT, lE), (Subs.c rfl (Subs.c rfl Subs.n)), (Subs.c rfl (Subs.c rfl (Subs.c (lkI rfl (by omega)) Subs.n))), ⟨hRL0, ⟨by omega, hOM.old (by omega)⟩⟩, by first | omega | (dsimp only; omega)⟩
      · have hp32 := of_decide_eq_false hg32
        refine WL_no rfl rfl hg32 rfl ?_
        refine WL_no rfl rfl hg32 rfl ?_
        refine WL_no rfl rfl hg32 rfl ?_
        refine WL_nou rfl rfl rfl ?_
        refine WL_nou rfl rfl rfl ?_
        refine WL_nou rfl rfl rfl ?_
        refine WL_no rfl rfl hg32 rfl ?_
        refine WL_q rfl (ev_pick_f rfl hg32 rfl) ?_
        refine WL_nil ?_
        refine thenE_n ?_
        refine W_cond_f rfl ?_
        refine W_skip ?_
        refine blockE_n ?_
        refine thenE_n ?_
        refine W_region ?_
        refine WL_q rfl (ev_add rfl rfl (by omega)) ?_
        refine WL_q rfl (ev_move rfl) ?_
        refine WL_nil ?_
        refine thenE_n ?_
        exact ⟨(i + 1, sT, lE), (Subs.c rfl (Subs.c rfl Subs.n)), (Subs.c rfl (Subs.c rfl (Subs.c (lkI rfl (by omega)) Subs.n))), ⟨hRL0, ⟨by omega, hOM.old (by omega)⟩⟩, by first | omega | (dsimp only; omega)⟩
    · have hp22 := of_decide_eq_false hg22
      refine W_exit ?_
      refine thenE_x ?_
      refine thenE_x ?_
      refine blockE_hit ?_
      refine thenE_n ?_
      refine W_seq ?_
      refine W_seq ?_
      refine W_region ?_
      refine WL_q rfl (ev_move rfl) ?_
      refine WL_q rfl (ev_lss rfl rfl) ?_
      refine WL_nil ?_
      refine thenE_n ?_
      refine W_cond rfl (fun hg46 => ?_) (fun hg46 => ?_)
      · have hp46 := of_decide_eq_true hg46
        refine W_seq ?_
        refine W_region ?_
        refine WL_q rfl (ev_assign rfl) ?_
        refine WL_q rfl (ev_assign rfl) ?_
        refine WL_nil ?_
        refine thenE_n ?_
        refine W_ret ?_
        refine thenE_r ?_
        refine ret2 rfl rfl rfl ?_
        first | (exact ⟨none, 0, [], _, rfl, .inl ⟨rfl, rfl, fun h => absurd h hp16⟩, OwnH.nil, by simp, hE⟩) | (exact ⟨none, 0, [], _, rfl, .inl ⟨rfl, rfl, fun _ => by have hi9 : i = A.ends.length := (by omega); subst hi9; exact hOM.neg hp46⟩, OwnH.nil, by simp, hE⟩) | (have hm9 : m = b := (by omega); subst hm9; exact ⟨_, _, _, _, rfl, .inr ⟨rfl, hkA, s, m, hOM, rfl⟩, hO.up (by omega) (Nat.le_refl _), by omega, hE⟩)
      · have hp46 := of_decide_eq_false hg46
        refine W_skip ?_
        refine thenE_n ?_
        refine W_seq ?_
        refine W_region ?_
        have hi9 : i = A.ends.length := by omega
        subst hi9
        have hlp := hOM.pos (by omega)
        obtain ⟨s, hss⟩ : ∃ s : Nat, sT = (s : Int) := ⟨sT.toNat, by omega⟩
        subst hss
        obtain ⟨b, hbb⟩ : ∃ b : Nat, lE = (b : Int) := ⟨lE.toNat, by omega⟩
        subst hbb
        obtain ⟨w1, w2, w3, w4, w5⟩ := hOM.get
        have hbo : b % 2 = 1 := by have := (oD_walk hk9 w1 (by omega)).2; omega
        have hbl49 := bfsD_len hk9 w1
        have hb80 : b ≤ 80 := by have h9 := bfs_rng (dbl_ok hk9) (v := ((2 * s : Nat) : Int)) (by omega) (by rw [dbl_len]; omega) _ (List.getElem_mem (l := (bfs (dbl A.ends) ((2 * s : Nat) : Int))) (n := 2 * s + 1) (by omega)); rw [dpt_at, dbl_len] at h9; unfold oD at w2; omega
        refine WL_q rfl (ev_loads st31 sz31 rfl (cellsB hB1) rfl) ?_
        refine WL_q rfl (ev_move rfl) ?_
        refine WL_m rfl (ev_call rfl (par_spec _ A s _ hA (by omega) (by omega) (by omega) hk9 w1)) ?_
        rintro _ w49 ⟨b49, rfl, hP49, hb49, hE49⟩
        have hz49 := hE49.size
        replace hE := hE.trans hE49
        replace hA := hA.ext hE49
        replace hB1 := hB1.ext hE49
        have hlt49 := hP49.lt
        refine WL_q rfl (ev_assign rfl) ?_
        refine WL_nil ?_
        refine thenE_n ?_
        refine W_seq ?_
        refine W_region ?_
        refine WL_q rfl (ev_move rfl) ?_
        refine WL_m rfl (ev_lit1 Try.underlying23 el3 (by decide) (by decide) rfl rfl) ?_
        rintro _ w51 ⟨rfl, hN51⟩
        have hz51 := hN51.size
        replace hE := hE.trans hN51.ext
        replace hA := hA.ext hN51.ext
        replace hB1 := hB1.ext hN51.ext
        replace hP49 := hP49.ext hN51.ext
        have hB51 := hN51.blk
        have hO0 : OwnH w49.heap.size w51.heap.size 0 0 w51 3 1 (some ⟨w49.heap.size, 0, none⟩) 1 1 ([(s : Int)].map VI) := ⟨own_of_blk (n := 1) hB51 (by omega) rfl (by omega), fun p hp => ⟨by cases hp; show w49.heap.size < _; omega, .inr (Nat.zero_le _)⟩⟩
        refine WL_q rfl (ev_assign rfl) ?_
        refine WL_nil ?_
        refine thenE_n ?_
        refine W_seq ?_
        refine W_seq ?_
        refine W_region ?_
        refine WL_q rfl (ev_move rfl) ?_
        refine WL_q rfl (ev_move rfl) ?_
        refine WL_q rfl (ev_assign rfl) ?_
        refine WL_q rfl (ev_assign rfl) ?_
        refine WL_nil ?_
        refine thenE_n ?_
        refine W_block ?_
        refine W_loopC (G := Nat × Option Addr × Nat) [(1, _), (8, _)] ((Subs.c rfl (Subs.c rfl Subs.n))) (fun ⟨m, a, c⟩ => [(9, .slice a (pathO A.ends s b m).length c), (10, VI (cur A.ends s b m : Int)), (11, VI ((b : Int) - (m : Int)))]) (fun ⟨m, a, c⟩ w' => Lo (w49.heap.size) w51 w' ∧ m ≤ b ∧ OwnH w49.heap.size w'.heap.size 0 0 w' 3 1 a (pathO A.ends s b m).length c ((pathO A.ends s b m).map VI)) (fun g => b - g.1) (0, _, 1) ((Subs.c rfl (Subs.c rfl (Subs.c (lkI rfl (by omega)) Subs.n)))) (⟨Lo.refl (by omega), ⟨Nat.zero_le _, hO0⟩⟩) ?_
        rintro ⟨m, a, c⟩ wL2 ⟨hRL2, hm', hO⟩
        have hzL2 := hRL2.size
        replace hA := hA.lo hRL2 (by omega)
        replace hB1 := hB1.lo hRL2 (by omega)
        replace hP49 := hP49.lo hRL2 (by omega)
        replace hE := hE.lo hRL2 (by omega)
        have hpl := pathO_len (ends := A.ends) (s := s) (b := b) (m := m)
        have hci := cur_inv hk9 hs9 w1 w2 hbo m hm'
        have hc1 := hci.1
        refine W_seq ?_
        refine W_seq ?_
        refine W_region ?_
        refine WL_q rfl (ev_move rfl) ?_
        refine WL_q rfl (ev_gtr rfl rfl) ?_
        refine WL_nil ?_
        refine thenE_n ?_
        refine W_cond rfl (fun hg55 => ?_) (fun hg55 => ?_)
        · have hp55 := of_decide_eq_true hg55
          refine W_skip ?_
          refine thenE_n ?_
          refine W_seq ?_
          refine W_block ?_
          refine W_seq ?_
          refine W_region ?_
          refine WL_q rfl (ev_assign rfl) ?_
          refine WL_nil ?_
          refine thenE_n ?_
          refine W_seq ?_
          refine W_seq ?_
          refine W_region ?_
          refine WL_q rfl (ev_fieldAddr fo31_0 rfl) ?_
          refine WL_q rfl (ev_load one29 rfl (hB1.cell rfl)) ?_
          refine WL_q rfl (ev_move rfl) ?_
          have hmb : m < b := by omega
          have hl61 : (cur A.ends s b m) < A.ends.length := hc1
          have ht61 := totL_le hl61
          obtain ⟨a61, c61, hc61, hr61⟩ := hA.ends.row hl61
          refine WL_q rfl (ev_indexAddr Try.underlying29 sz55 rfl rfl (hA.ends.isSome (by omega)) (by omega) (by omega)) ?_
          refine WL_q rfl (ev_load one55 rfl (hc61)) ?_
          refine WL_q rfl (ev_len Try.underlying55 rfl) ?_
          refine WL_q rfl (ev_move rfl) ?_
          refine WL_nil ?_
          refine thenE_n ?_
          refine W_block ?_
          refine W_loopC (G := Nat × Int) [(1, _), (8, _), (9, _), (11, _), (62, _), (63, _)] ((Subs.c rfl (Subs.c rfl (Subs.c rfl (Subs.c rfl (Subs.c rfl (Subs.c rfl Subs.n))))))) (fun ⟨j, bq⟩ => [(12, VI bq), (64, VI (j : Int))]) (fun ⟨j, bq⟩ w' => Ext wL2 w' ∧ j ≤ A.ends[(cur A.ends s b m)].length ∧ BMi A.ends s (cur A.ends s b m) (b - (m + 1)) j bq) (fun g => A.ends[(cur A.ends s b m)].length - g.1) (0, -1) ((Subs.c rfl (Subs.c (lkI rfl (by omega)) Subs.n))) (⟨Ext.refl _, ⟨Nat.zero_le _, BMi.zero⟩⟩) ?_
          rintro ⟨j, bq⟩ wL4 ⟨hRL4, hj', hBm⟩
          have hzL4 := hRL4.size
          replace hE := hE.trans hRL4
          replace hRL2 := hRL2.trans hRL4
          replace hA := hA.ext hRL4
          replace hB1 := hB1.ext hRL4
          replace hP49 := hP49.ext hRL4
          replace hO := hO.ext hRL4
          replace hr61 := hr61.ext hRL4
          refine W_seq ?_
          refine W_region ?_
          refine WL_q rfl (ev_lss rfl rfl) ?_
          refine WL_nil ?_
          refine thenE_n ?_
          refine W_seq ?_
          refine W_cond rfl (fun hg65 => ?_) (fun hg65 => ?_)
          · have hp65 := of_decide_eq_true hg65
            refine W_skip ?_
            refine thenE_n ?_
            refine W_seq ?_
            refine W_block ?_
            refine W_seq ?_
            refine W_region ?_
            have hjl : j < A.ends[(cur A.ends s b m)].length := by omega
            have hnx := near_q hc1 hjl
            obtain ⟨he1, he2⟩ := hk9.at hc1 hjl
            refine WL_q rfl (ev_indexAddr Try.underlying55 sz57 rfl rfl (hr61.isSome (by omega)) (by omega) (by omega)) ?_
            refine WL_q rfl (ev_loads st57 sz57 rfl (hr61.cells (i := j) (by omega)) rfl) ?_
            refine WL_m rfl (ev_alloc zr57) ?_
            rintro _ w14 ⟨rfl, hN14⟩
            have hz14 := hN14.size
            replace hE := hE.trans hN14.ext
            replace hRL2 := hRL2.trans hN14.ext
            replace hRL4 := hRL4.trans hN14.ext
            replace hA := hA.ext hN14.ext
            replace hB1 := hB1.ext hN14.ext
            replace hP49 := hP49.ext hN14.ext
            replace hO := hO.ext hN14.ext
            replace hr61 := hr61.ext hN14.ext
            have hB14 : Blk w14 _ _ [_, _] := hN14.blk
            refine WL_s (ev_stores sz57 rfl rfl rfl (by simp [Value.oneCell']) hB14 (by simp)) ?_
            rintro _ w21_3 hS21_3
            have hz21_3 := hS21_3.size
            replace hE := hE.sto hS21_3 (by omega)
            replace hRL2 := hRL2.sto hS21_3 (by omega)
            replace hRL4 := hRL4.sto hS21_3 (by omega)
            replace hA := hA.sto hS21_3 (by omega)
            replace hB1 := hB1.sto hS21_3 (by omega)
            replace hP49 := hP49.sto hS21_3 (by omega)
            replace hO := hO.sto hS21_3 (by omega)
            replace hr61 := hr61.sto hS21_3 (by omega)
            replace hB14 : Blk w21_3 _ _ [_, _] := hS21_3.blk
            refine WL_nil ?_
            refine thenE_n ?_
            refine W_seq ?_
            refine W_region ?_
            refine WL_q rfl (ev_move rfl) ?_
            refine WL_q rfl (ev_fieldAddr fo57_0 rfl) ?_
            refine WL_q rfl (ev_load one3 rfl (hB14.cell rfl)) ?_
            refine WL_q rfl (ev_move rfl) ?_
            refine WL_q rfl (ev_sub rfl rfl (by omega)) ?_
            refine WL_q rfl (ev_rem rfl rfl (by omega) (by omega)) ?_
            refine WL_q rfl (ev_indexAddr Try.underlying53 sz52 rfl rfl rfl he1 (by omega)) ?_
            refine WL_q rfl (ev_indexAddrA Try.underlying52 sz3 rfl rfl (by omega) (by omega)) ?_
            refine WL_q rfl (ev_load one3 rfl (icell hP49 (i := 2 * A.ends[(cur A.ends s b m)][j].1.toNat + ((b - (m + 1)) % 2)) (by omega) (by omega))) ?_
            have hod : (bfs (dbl A.ends) ((2 * s : Nat) : Int))[2 * A.ends[(cur A.ends s b m)][j].1.toNat + ((b - (m + 1)) % 2)]'(by omega) = (dpt A.ends s A.ends[(cur A.ends s b m)][j].1.toNat ((b - (m + 1)) % 2)) := dpt_at (by omega)
            rw [hod]
            refine WL_q rfl (ev_move rfl) ?_
            refine WL_q rfl (ev_sub rfl rfl (by omega)) ?_
            refine WL_q rfl (ev_eql rfl rfl) ?_
            refine WL_q rfl (ev_move rfl) ?_
            refine WL_splitv (t := 80) rfl (fun hg79 => ?_) (fun hg79 => ?_)
            · have hp79 := of_decide_eq_true hg79
              refine WL_qg rfl rfl hg79 rfl (ev_move rfl) ?_
              refine WL_qg rfl rfl hg79 rfl (ev_lss rfl rfl) ?_
              refine WL_qg rfl rfl hg79 rfl (ev_move rfl) ?_
              refine WL_splitv (t := 83) rfl (fun hg82 => ?_) (fun hg82 => ?_)
              · have hp82 := of_decide_eq_true hg82
                refine WL_no rfl rfl hg82 rfl ?_
                refine WL_no rfl rfl hg82 rfl ?_
                refine WL_no rfl rfl hg82 rfl ?_
                refine WL_no rfl rfl hg82 rfl ?_
                refine WL_qg rfl rfl hg79 rfl (ev_pick_t rfl hg82 rfl) ?_
                refine WL_q rfl (ev_pick_t rfl hg79 rfl) ?_
                refine WL_nil ?_
                refine thenE_n ?_
                refine W_cond_t rfl ?_
                refine W_region ?_
                refine WL_q rfl (ev_fieldAddr fo57_0 rfl) ?_
                refine WL_q rfl (ev_load one3 rfl (hB14.cell rfl)) ?_
                refine WL_q rfl (ev_assign rfl) ?_
                refine WL_nil ?_
                refine blockE_n ?_
                refine thenE_n ?_
                refine W_region ?_
                refine WL_q rfl (ev_add rfl rfl (by omega)) ?_
                refine WL_q rfl (ev_move rfl) ?_
                refine WL_nil ?_
                refine thenE_n ?_
                exact ⟨(j + 1, A.ends[(cur A.ends s b m)][j].1), (Subs.c rfl (Subs.c rfl (Subs.c rfl (Subs.c rfl (Subs.c rfl (Subs.c rfl Subs.n)))))), (Subs.c rfl (Subs.c (lkI rfl (by omega)) Subs.n)), ⟨hRL4, ⟨by omega, hBm.new hnx he1 (by omega) (by omega)⟩⟩, by first | omega | (dsimp only; omega)⟩
              · have hp82 := of_decide_eq_false hg82
                refine WL_qg rfl rfl hg82 rfl (ev_fieldAddr fo57_0 rfl) ?_
                refine WL_qg rfl rfl hg82 rfl (ev_load one3 rfl (hB14.cell rfl)) ?_
                refine WL_qg rfl rfl hg82 rfl (ev_move rfl) ?_
                refine WL_qg rfl rfl hg82 rfl (ev_lss rfl rfl) ?_
                refine WL_qg rfl rfl hg79 rfl (ev_pick_f rfl hg82 rfl) ?_
                refine WL_q rfl (ev_pick_t rfl hg79 rfl) ?_
                refine WL_nil ?_
                refine thenE_n ?_
                refine W_cond rfl (fun hg87 => ?_) (fun hg87 => ?_)
                · have hp87 := of_decide_eq_true hg87
                  refine W_region ?_
                  refine WL_q rfl (ev_fieldAddr fo57_0 rfl) ?_
                  refine WL_q rfl (ev_load one3 rfl (hB14.cell rfl)) ?_
                  refine WL_q rfl (ev_assign rfl) ?_
                  refine WL_nil ?_
                  refine blockE_n ?_
                  refine thenE_n ?_
                  refine W_region ?_
                  refine WL_q rfl (ev_add rfl rfl (by omega)) ?_
                  refine WL_q rfl (ev_move rfl) ?_
                  refine WL_nil ?_
                  refine thenE_n ?_
                  exact ⟨(j + 1, A.ends[(cur A.ends s b m)][j].1), (Subs.c rfl (Subs.c rfl (Subs.c rfl (Subs.c rfl (Subs.c rfl (Subs.c rfl Subs.n)))))), (Subs.c rfl (Subs.c (lkI rfl (by omega)) Subs.n)), ⟨hRL4, ⟨by omega, hBm.new hnx he1 (by omega) (by omega)⟩⟩, by first | omega | (dsimp only; omega)⟩
                · have hp87 := of_decide_eq_false hg87
                  refine W_skip ?_
                  refine blockE_n ?_
                  refine thenE_n ?_
                  refine W_region ?_
                  refine WL_q rfl (ev_add rfl rfl (by omega)) ?_
                  refine WL_q rfl (ev_move rfl) ?_
                  refine WL_nil ?_
                  refine thenE_n ?_
                  exact ⟨(j + 1, bq), (Subs.c rfl (Subs.c rfl (Subs.c rfl (Subs.c rfl (Subs.c rfl (Subs.c rfl Subs.n)))))), (Subs.c rfl (Subs.c (lkI rfl (by omega)) Subs.n)), ⟨hRL4, ⟨by omega, hBm.old hnx (by omega)⟩⟩, by first | omega | (dsimp only; omega)⟩
            · have hp79 := of_decide_eq_false hg79
              refine WL_no rfl rfl hg79 rfl ?_
              refine WL_no rfl rfl hg79 rfl ?_
              refine WL_no rfl rfl hg79 rfl ?_
              refine WL_nou rfl rfl rfl ?_
              refine WL_nou rfl rfl rfl ?_
              refine WL_nou rfl rfl rfl ?_
              refine WL_nou rfl rfl rfl ?_
              refine WL_no rfl rfl hg79 rfl ?_
              refine WL_q rfl (ev_pick_f rfl hg79 rfl) ?_
              refine WL_nil ?_
              refine thenE_n ?_
              refine W_cond_f rfl ?_
              refine W_skip ?_
              refine blockE_n ?_
              refine thenE_n ?_
              refine W_region ?_
              refine WL_q rfl (ev_add rfl rfl (by omega)) ?_
              refine WL_q rfl (ev_move rfl) ?_
              refine WL_nil ?_
              refine thenE_n ?_
              exact ⟨(j + 1, bq), (Subs.c rfl (Subs.c rfl (Subs.c rfl (Subs.c rfl (Subs.c rfl (Subs.c rfl Subs.n)))))), (Subs.c rfl (Subs.c (lkI rfl (by omega)) Subs.n)), ⟨hRL4, ⟨by omega, hBm.old hnx (by omega)⟩⟩, by first | omega | (dsimp only; omega)⟩
          · have hp65 := of_decide_eq_false hg65
            refine W_exit ?_
            refine thenE_x ?_
            refine thenE_x ?_
            refine blockE_hit ?_
            refine thenE_n ?_
            refine W_seq ?_
            refine W_region ?_
            have hcw : (cur A.ends s b (m + 1) : Int) = bq := (hBm.done hk9 hs9 w1 w2 hbo hmb (by rw [near_lenN hc1]; omega)).symm
            refine WL_q rfl (ev_move rfl) ?_
            refine WL_q rfl (ev_assign rfl) ?_
            refine WL_nil ?_
            refine thenE_n ?_
            refine W_region ?_
            refine WL_q rfl (ev_move rfl) ?_
            refine WL_q rfl (ev_move rfl) ?_
            refine WL_m rfl (ev_lit1 Try.underlying23 el3 (by decide) (by decide) rfl rfl) ?_
            rintro _ w96 ⟨rfl, hN96⟩
            have hz96 := hN96.size
            replace hE := hE.trans hN96.ext
            replace hRL2 := hRL2.trans hN96.ext
            replace hA := hA.ext hN96.ext
            replace hB1 := hB1.ext hN96.ext
            replace hP49 := hP49.ext hN96.ext
            replace hO := hO.ext hN96.ext
            replace hr61 := hr61.ext hN96.ext
            have hB96 := hN96.blk
            refine WL_m rfl (ev_appendT Try.underlying23 el3 rfl (by decide) rfl rfl hO (SAt.of_blk (cs := [_]) (ds := []) hB96) rfl (by simp [Value.oneCell']) (by omega) (by unfold maxLen; omega) (by omega)) ?_
            rintro _ w97 ⟨a97, c97, rfl, hO97, hK97, hQ97⟩
            have hz97 := hK97.size
            replace hE := hE.rg hK97 (by omega)
            replace hRL2 := hRL2.rg hK97 (by omega)
            replace hA := hA.rg hK97 (by omega)
            replace hB1 := hB1.rg hK97 (by omega)
            replace hP49 := hP49.rg hK97 (by omega)
            replace hr61 := hr61.rg hK97 (by omega)
            replace hB96 := hB96.rg hK97 (by omega)
            replace hO := hO97
            replace hO := ownt_snocI hO
            refine WL_q rfl (ev_assign rfl) ?_
            refine WL_nil ?_
            refine blockE_n ?_
            refine thenE_n ?_
            refine W_region ?_
            refine WL_q rfl (ev_move rfl) ?_
            refine WL_q rfl (ev_sub rfl rfl (by omega)) ?_
            refine WL_q rfl (ev_assign rfl) ?_
            refine WL_nil ?_
            refine thenE_n ?_
            exact ⟨(m + 1, a97, c97), (Subs.c rfl (Subs.c rfl Subs.n)), (Subs.c (lkS rfl (by simp [pathO])) (Subs.c (lkI rfl (by omega)) (Subs.c (lkI rfl (by omega)) Subs.n))), ⟨hRL2, ⟨by omega, (ownt_to hO (by rw [← pathO_succ, hcw]) (by simp [pathO])).up (Nat.le_refl _) (by omega)⟩⟩, by first | omega | (dsimp only; omega)⟩
        · have hp55 := of_decide_eq_false hg55
          refine W_exit ?_
          refine thenE_x ?_
          refine thenE_x ?_
          refine blockE_hit ?_
          refine thenE_n ?_
          refine W_seq ?_
          refine W_region ?_
          refine WL_q rfl (ev_move rfl) ?_
          refine WL_q rfl (ev_assign rfl) ?_
          refine WL_q rfl (ev_assign rfl) ?_
          refine WL_nil ?_
          refine thenE_n ?_
          refine W_ret ?_
          refine ret2 rfl rfl rfl ?_
          first | (exact ⟨none, 0, [], _, rfl, .inl ⟨rfl, rfl, fun h => absurd h hp16⟩, OwnH.nil, by simp, hE⟩) | (exact ⟨none, 0, [], _, rfl, .inl ⟨rfl, rfl, fun _ => by have hi9 : i = A.ends.length := (by omega); subst hi9; exact hOM.neg hp46⟩, OwnH.nil, by simp, hE⟩) | (have hm9 : m = b := (by omega); subst hm9; exact ⟨_, _, _, _, rfl, .inr ⟨rfl, hkA, s, m, hOM, rfl⟩, hO.up (by omega) (Nat.le_refl _), by omega, hE⟩)

set_option maxRecDepth 100000 in
theorem law_OddClosedWalk (nA : NA) (A : Net) (w : World) (hA : IsNet 0 w.heap.size w nA A) (hsA : SmN A) :
    Fn Try.prog 4 #[netV nA A] w (fun v w' => v = VB true ∧ Ext w w') := by
  have hE := Ext.refl w
  refine Fn_of Try.func4 rfl rfl (by kernel_rfl) rfl ?_
  refine W_seq ?_
  refine W_region ?_
  refine WL_m rfl (ev_box rfl) ?_
  rintro _ w1 ⟨rfl, hN1⟩
  have hz1 := hN1.size
  replace hE := hE.trans hN1.ext
  replace hA := hA.ext hN1.ext
  have hB1 : Blk w1 _ _ [_, _, _] := hN1.blk
  refine WL_q rfl (ev_assign rfl) ?_
  refine WL_nil ?_
  refine thenE_n ?_
  refine W_seq ?_
  refine W_region ?_
  refine WL_q rfl (ev_assign rfl) ?_
  refine WL_nil ?_
  refine thenE_n ?_
  refine W_seq ?_
  refine W_region ?_
  refine WL_q rfl (ev_loads st25 sz25 rfl (cellsB hB1) rfl) ?_
  refine WL_q rfl (ev_move rfl) ?_
  refine WL_m rfl (ev_call rfl (szNetwork_spec _ A _ _ hA (by omega) hsA)) ?_
  rintro _ w16 ⟨r16, rfl, hE16, hr16⟩
  have hz16 := hE16.size
  replace hE := hE.trans hE16
  replace hA := hA.ext hE16
  replace hB1 := hB1.ext hE16
  refine WL_q rfl (ev_assign rfl) ?_
  refine WL_nil ?_
  refine thenE_n ?_
  refine W_seq ?_
  refine W_seq ?_
  refine W_region ?_
  refine WL_q rfl (ev_move rfl) ?_
  refine WL_q rfl (ev_lss rfl rfl) ?_
  refine WL_nil ?_
  refine thenE_n ?_
  refine W_cond rfl (fun hg18 => ?_) (fun hg18 => ?_)
  · have hp18 := of_decide_eq_true hg18
    refine W_seq ?_
    refine W_region ?_
    refine WL_q rfl (ev_assign rfl) ?_
    refine WL_nil ?_
    refine thenE_n ?_
    refine W_ret ?_
    refine thenE_r ?_
    refine ret1 rfl rfl ?_
    first | (exact ⟨rfl, hE⟩) | (exact (tfX hg18).elim) | (exact (decF hg18).elim) | (exfalso; omega)
  · have hp18 := of_decide_eq_false hg18
    refine W_skip ?_
    refine thenE_n ?_
    refine W_seq ?_
    refine W_region ?_
    refine WL_q rfl (ev_loads st25 sz25 rfl (cellsB hB1) rfl) ?_
    refine WL_m rfl (ev_call rfl (toNetwork_spec _ A _ hA (by omega) (by omega))) ?_
    rintro _ w21 ⟨h21, rfl, hF21, hE21⟩
    have hz21 := hE21.size
    replace hE := hE.trans hE21
    replace hA := hA.ext hE21
    replace hB1 := hB1.ext hE21
    have hN21 := hF21.is
    refine WL_m rfl (ev_call rfl (sOdd_spec _ A _ hN21 (by omega) (by omega))) ?_
    rintro _ w22 ⟨a22, c22, y22, q22, rfl, hr22, hx22, hl22, hE22⟩
    have hz22 := hE22.size
    replace hE := hE.trans hE22
    replace hA := hA.ext hE22
    replace hB1 := hB1.ext hE22
    replace hF21 := hF21.ext hE22
    replace hN21 := hN21.ext hE22
    refine WL_q rfl (ev_move rfl) ?_
    refine WL_q rfl (ev_extract rfl rfl) ?_
    refine WL_q rfl (ev_extract rfl rfl) ?_
    refine WL_q rfl (ev_assign rfl) ?_
    refine WL_q rfl (ev_assign rfl) ?_
    refine WL_nil ?_
    refine thenE_n ?_
    refine W_seq ?_
    refine W_region ?_
    refine WL_q rfl (ev_loads st25 sz25 rfl (cellsB hB1) rfl) ?_
    refine WL_m rfl (ev_call rfl (toNetwork_spec _ A _ hA (by omega) (by omega))) ?_
    rintro _ w26 ⟨h26, rfl, hF26, hE26⟩
    have hz26 := hE26.size
    replace hE := hE.trans hE26
    replace hA := hA.ext hE26
    replace hB1 := hB1.ext hE26
    replace hF21 := hF21.ext hE26
    replace hN21 := hN21.ext hE26
    replace hx22 := hx22.ext hE26
    have hN26 := hF26.is
    refine WL_m rfl (ev_alloc zr31) ?_
    rintro _ w6 ⟨rfl, hN6⟩
    have hz6 := hN6.size
    replace hE := hE.trans hN6.ext
    replace hA := hA.ext hN6.ext
    replace hB1 := hB1.ext hN6.ext
    replace hF21 := hF21.ext hN6.ext
    replace hN21 := hN21.ext hN6.ext
    replace hx22 := hx22.ext hN6.ext
    replace hF26 := hF26.ext hN6.ext
    replace hN26 := hN26.ext hN6.ext
    have hB6 : Blk w6 _ _ [_, _, _] := hN6.blk
    refine WL_s (ev_stores sz31 rfl rfl rfl (by simp [Value.oneCell']) hB6 (by simp)) ?_
    rintro _ w6_3 hS6_3
    have hz6_3 := hS6_3.size
    replace hE := hE.sto hS6_3 (by omega)
    replace hA := hA.sto hS6_3 (by omega)
    replace hB1 := hB1.sto hS6_3 (by omega)
    replace hF21 := hF21.sto hS6_3 (by omega)
    replace hN21 := hN21.sto hS6_3 (by omega)
    replace hx22 := hx22.sto hS6_3 (by omega)
    replace hF26 := hF26.sto hS6_3 (by omega)
    replace hN26 := hN26.sto hS6_3 (by omega)
    replace hB6 : Blk w6_3 _ _ [_, _, _] := hS6_3.blk
    refine WL_nil ?_
    refine thenE_n ?_
    refine W_seq ?_
    refine W_region ?_
    refine WL_q rfl (ev_loads st31 sz31 rfl (cellsB hB6) rfl) ?_
    refine WL_m rfl (ev_call rfl (OddW_spec _ A _ hN26 (by omega) (by omega))) ?_
    rintro _ w29 ⟨a29, c29, y29, q29, rfl, hr29, hO29, hl29, hE29⟩
    have hz29 := hE29.size
    replace hE := hE.trans hE29
    replace hA := hA.ext hE29
    replace hB1 := hB1.ext hE29
    replace hF21 := hF21.ext hE29
    replace hN21 := hN21.ext hE29
    replace hx22 := hx22.ext hE29
    replace hF26 := hF26.ext hE29
    replace hN26 := hN26.ext hE29
    replace hB6 := hB6.ext hE29
    refine WL_q rfl (ev_move rfl) ?_
    refine WL_q rfl (ev_extract rfl rfl) ?_
    refine WL_q rfl (ev_extract rfl rfl) ?_
    refine WL_q rfl (ev_assign rfl) ?_
    refine WL_q rfl (ev_assign rfl) ?_
    refine WL_nil ?_
    refine thenE_n ?_
    refine W_seq ?_
    refine W_seq ?_
    refine W_region ?_
    refine WL_q rfl (ev_move rfl) ?_
    refine WL_q rfl (ev_move rfl) ?_
    refine WL_m rfl (ev_call rfl (eqIntS_spec _ _ _ _ y29 y22 _ (ownt_i hO29) hx22 (by omega))) ?_
    rintro _ w34 ⟨rfl, hE34⟩
    have hz34 := hE34.size
    replace hE := hE.trans hE34
    replace hA := hA.ext hE34
    replace hB1 := hB1.ext hE34
    replace hF21 := hF21.ext hE34
    replace hN21 := hN21.ext hE34
    replace hx22 := hx22.ext hE34
    replace hF26 := hF26.ext hE34
    replace hN26 := hN26.ext hE34
    replace hB6 := hB6.ext hE34
    replace hO29 := hO29.ext hE34
    refine WL_q rfl (ev_not rfl) ?_
    refine WL_q rfl (ev_move rfl) ?_
    refine WL_splitv (t := 36) rfl (fun hg35 => ?_) (fun hg35 => ?_)
    · have hg34 := not_true hg35
      refine WL_no rfl rfl hg35 rfl ?_
      refine WL_no rfl rfl hg35 rfl ?_
      refine WL_no rfl rfl hg35 rfl ?_
      refine WL_q rfl (ev_pick_t rfl hg35 rfl) ?_
      refine WL_nil ?_
      refine thenE_n ?_
      refine W_cond_t rfl ?_
      refine W_seq ?_
      refine W_region ?_
      refine WL_q rfl (ev_assign rfl) ?_
      refine WL_nil ?_
      refine thenE_n ?_
      refine W_ret ?_
      refine thenE_r ?_
      refine ret1 rfl rfl ?_
      first | (exact ⟨rfl, hE⟩) | (exact (bneE hg34 (hr29.det1 hr22)).elim) | (exact absurd (hr29.det1 hr22) hp34) | (exact absurd (hr29.det1 hr22) (of_decide_eq_false hg34)) | (exact (bneE hg34 (hr29.det2 hr22)).elim) | (exact absurd (hr29.det2 hr22) hp34) | (exact absurd (hr29.det2 hr22) (of_decide_eq_false hg34)) | (exact (bneE hg34 (hr29.det3 hr22)).elim) | (exact absurd (hr29.det3 hr22) hp34) | (exact absurd (hr29.det3 hr22) (of_decide_eq_false hg34)) | (exact (tfX hg34).elim) | (exact (decF hg34).elim) | (exfalso; omega)
    · have hg34 := not_false hg35
      refine WL_qg rfl rfl hg35 rfl (ev_move rfl) ?_
      refine WL_qg rfl rfl hg35 rfl (ev_move rfl) ?_
      refine WL_qg rfl rfl hg35 rfl (ev_neq_b Try.underlying4 rfl rfl) ?_
      refine WL_q rfl (ev_pick_f rfl hg35 rfl) ?_
      refine WL_nil ?_
      refine thenE_n ?_
      refine W_cond rfl (fun hg39 => ?_) (fun hg39 => ?_)
      · refine W_seq ?_
        refine W_region ?_
        refine WL_q rfl (ev_assign rfl) ?_
        refine WL_nil ?_
        refine thenE_n ?_
        refine W_ret ?_
        refine thenE_r ?_
        refine ret1 rfl rfl ?_
        first | (exact ⟨rfl, hE⟩) | (exact (bneE hg39 (hr29.det1 hr22)).elim) | (exact absurd (hr29.det1 hr22) hp39) | (exact absurd (hr29.det1 hr22) (of_decide_eq_false hg39)) | (exact (bneE hg39 (hr29.det2 hr22)).elim) | (exact absurd (hr29.det2 hr22) hp39) | (exact absurd (hr29.det2 hr22) (of_decide_eq_false hg39)) | (exact (bneE hg39 (hr29.det3 hr22)).elim) | (exact absurd (hr29.det3 hr22) hp39) | (exact absurd (hr29.det3 hr22) (of_decide_eq_false hg39)) | (exact (tfX hg39).elim) | (exact (decF hg39).elim) | (exfalso; omega)
      · refine W_skip ?_
        refine thenE_n ?_
        refine W_seq ?_
        refine W_seq ?_
        refine W_drawE [(0, true), (1, true), (2, false), (3, false), (4, true)] mixed (by kernel_rfl) rfl (by kernel_rfl) ?_
        intro wd10 hEd10 hzd10
        replace hE := hE.trans hEd10
        replace hA := hA.ext hEd10
        replace hB1 := hB1.ext hEd10
        replace hF21 := hF21.ext hEd10
        replace hN21 := hN21.ext hEd10
        replace hx22 := hx22.ext hEd10
        replace hF26 := hF26.ext hEd10
        replace hN26 := hN26.ext hEd10
        replace hB6 := hB6.ext hEd10
        replace hO29 := hO29.ext hEd10
        have hDd10 := Ext.refl wd10
        refine PW_q rfl rfl (fun wq hq => ev_loads st31 sz31 rfl (cellsB (hq.blk hB6)) rfl) ?_
        refine PW_q rfl rfl (fun wq hq => ev_loads st25 sz25 rfl (cellsB (hq.blk hB1)) rfl) ?_
        refine PW_m rfl rfl (ev_call rfl (toNetwork_spec _ A _ hA (by omega) (by omega))) ?_
        rintro _ w43 ⟨h43, rfl, hF43, hE43⟩
        have hz43 := hE43.size
        replace hE := hE.trans hE43
        replace hDd10 := hDd10.trans hE43
        have hN43 := hF43.is
        refine ⟨hDd10, ?_⟩
        have hA_3 := hA.ext hDd10
        have hB1_3 := hB1.ext hDd10
        have hF21_3 := hF21.ext hDd10
        have hN21_3 := hN21.ext hDd10
        have hx22_3 := hx22.ext hDd10
        have hF26_3 := hF26.ext hDd10
        have hN26_3 := hN26.ext hDd10
        have hB6_3 := hB6.ext hDd10
        have hO29_3 := hO29.ext hDd10
        refine PW_m rfl rfl (ev_call rfl (eqNetwork_spec _ _ A _ hN26_3 hN43 (by omega))) ?_
        rintro _ w44 ⟨rfl, hE44⟩
        have hz44 := hE44.size
        replace hE := hE.trans hE44
        replace hDd10 := hDd10.trans hE44
        replace hF43 := hF43.ext hE44
        replace hN43 := hN43.ext hE44
        refine ⟨hDd10, ?_⟩
        refine PW_q rfl rfl (fun wq hq => ev_not rfl) ?_
        replace hA := hA.ext hDd10
        replace hB1 := hB1.ext hDd10
        replace hF21 := hF21.ext hDd10
        replace hN21 := hN21.ext hDd10
        replace hx22 := hx22.ext hDd10
        replace hF26 := hF26.ext hDd10
        replace hN26 := hN26.ext hDd10
        replace hB6 := hB6.ext hDd10
        replace hO29 := hO29.ext hDd10
        refine PW_nil ?_
        refine thenE_n ?_
        refine W_cond rfl (fun hg45 => ?_) (fun hg45 => ?_)
        · have hg44 := not_true hg45
          refine W_seq ?_
          refine W_region ?_
          refine WL_q rfl (ev_assign rfl) ?_
          refine WL_nil ?_
          refine thenE_n ?_
          refine W_ret ?_
          refine thenE_r ?_
          refine ret1 rfl rfl ?_
          first | (exact ⟨rfl, hE⟩) | (exact (bneE hg44 (hr29.det1 hr22)).elim) | (exact absurd (hr29.det1 hr22) hp44) | (exact absurd (hr29.det1 hr22) (of_decide_eq_false hg44)) | (exact (bneE hg44 (hr29.det2 hr22)).elim) | (exact absurd (hr29.det2 hr22) hp44) | (exact absurd (hr29.det2 hr22) (of_decide_eq_false hg44)) | (exact (bneE hg44 (hr29.det3 hr22)).elim) | (exact absurd (hr29.det3 hr22) hp44) | (exact absurd (hr29.det3 hr22) (of_decide_eq_false hg44)) | (exact (tfX hg44).elim) | (exact (decF hg44).elim) | (exfalso; omega)
        · have hg44 := not_false hg45
          refine W_skip ?_
          refine thenE_n ?_
          refine W_seq ?_
          refine W_region ?_
          refine WL_q rfl (ev_assign rfl) ?_
          refine WL_nil ?_
          refine thenE_n ?_
          refine W_seq ?_
          refine W_region ?_
          refine WL_q rfl (ev_loads st31 sz31 rfl (cellsB hB6) rfl) ?_
          refine WL_q rfl (ev_move rfl) ?_
          refine WL_m rfl (ev_call rfl (markNetwork_spec _ A _ _ hF26 (by omega) (by omega) (by omega))) ?_
          rintro _ w48 ⟨r48, rfl, hr48, hK48⟩
          have hz48 := hK48.size
          replace hE := hE.mrk hK48 (by omega)
          replace hA := hA.mrk hK48 (by omega)
          replace hB1 := hB1.mrk hK48 (by omega)
          replace hF21 := hF21.mrk hK48 (by omega)
          replace hN21 := hN21.mrk hK48 (by omega)
          replace hx22 := hx22.mrk hK48 (by omega)
          replace hB6 := hB6.mrk hK48 (by omega)
          replace hO29 := hO29.mrk hK48 (by omega)
          replace hF43 := hF43.mrk hK48 (by omega)
          replace hN43 := hN43.mrk hK48 (by omega)
          refine WL_q rfl (ev_assign rfl) ?_
          refine WL_nil ?_
          refine thenE_n ?_
          refine W_seq ?_
          refine W_seq ?_
          refine W_region ?_
          refine WL_q rfl (ev_move rfl) ?_
          refine WL_q rfl (ev_lss rfl rfl) ?_
          refine WL_q rfl (ev_move rfl) ?_
          refine WL_splitv (t := 51) rfl (fun hg50 => ?_) (fun hg50 => ?_)
          · have hp50 := of_decide_eq_true hg50
            refine WL_no rfl rfl hg50 rfl ?_
            refine WL_no rfl rfl hg50 rfl ?_
            refine WL_no rfl rfl hg50 rfl ?_
            refine WL_no rfl rfl hg50 rfl ?_
            refine WL_q rfl (ev_pick_t rfl hg50 rfl) ?_
            refine WL_q rfl (ev_move rfl) ?_
            refine WL_no rfl rfl rfl rfl ?_
            refine WL_no rfl rfl rfl rfl ?_
            refine WL_no rfl rfl rfl rfl ?_
            refine WL_q rfl (ev_pick_t rfl rfl rfl) ?_
            refine WL_nil ?_
            refine thenE_n ?_
            refine W_cond_t rfl ?_
            refine W_seq ?_
            refine W_region ?_
            refine WL_q rfl (ev_assign rfl) ?_
            refine WL_nil ?_
            refine thenE_n ?_
            refine W_ret ?_
            refine thenE_r ?_
            refine ret1 rfl rfl ?_
            first | (exact ⟨rfl, hE⟩) | (exact (bneE hg50 (hr29.det1 hr22)).elim) | (exact absurd (hr29.det1 hr22) hp50) | (exact absurd (hr29.det1 hr22) (of_decide_eq_false hg50)) | (exact (bneE hg50 (hr29.det2 hr22)).elim) | (exact absurd (hr29.det2 hr22) hp50) | (exact absurd (hr29.det2 hr22) (of_decide_eq_false hg50)) | (exact (bneE hg50 (hr29.det3 hr22)).elim) | (exact absurd (hr29.det3 hr22) hp50) | (exact absurd (hr29.det3 hr22) (of_decide_eq_false hg50)) | (exact (tfX hg50).elim) | (exact (decF hg50).elim) | (exfalso; omega)
          · have hp50 := of_decide_eq_false hg50
            refine WL_qg rfl rfl hg50 rfl (ev_move rfl) ?_
            refine WL_qg rfl rfl hg50 rfl (ev_move rfl) ?_
            refine WL_mg rfl rfl hg50 rfl (ev_call rfl (eqIntS_spec _ _ _ _ y29 y22 _ (ownt_i hO29) hx22 (by omega))) ?_
            rintro _ w54 ⟨rfl, hE54⟩
            have hz54 := hE54.size
            replace hE := hE.trans hE54
            replace hA := hA.ext hE54
            replace hB1 := hB1.ext hE54
            replace hF21 := hF21.ext hE54
            replace hN21 := hN21.ext hE54
            replace hx22 := hx22.ext hE54
            replace hB6 := hB6.ext hE54
            replace hO29 := hO29.ext hE54
            replace hF43 := hF43.ext hE54
            replace hN43 := hN43.ext hE54
            refine WL_qg rfl rfl hg50 rfl (ev_not rfl) ?_
            refine WL_q rfl (ev_pick_f rfl hg50 rfl) ?_
            refine WL_q rfl (ev_move rfl) ?_
            refine WL_splitv (t := 57) rfl (fun hg55 => ?_) (fun hg55 => ?_)
            · have hg54 := not_true hg55
              refine WL_no rfl rfl hg55 rfl ?_
              refine WL_no rfl rfl hg55 rfl ?_
              refine WL_no rfl rfl hg55 rfl ?_
              refine WL_q rfl (ev_pick_t rfl hg55 rfl) ?_
              refine WL_nil ?_
              refine thenE_n ?_
              refine W_cond_t rfl ?_
              refine W_seq ?_
              refine W_region ?_
              refine WL_q rfl (ev_assign rfl) ?_
              refine WL_nil ?_
              refine thenE_n ?_
              refine W_ret ?_
              refine thenE_r ?_
              refine ret1 rfl rfl ?_
              first | (exact ⟨rfl, hE⟩) | (exact (bneE hg54 (hr29.det1 hr22)).elim) | (exact absurd (hr29.det1 hr22) hp54) | (exact absurd (hr29.det1 hr22) (of_decide_eq_false hg54)) | (exact (bneE hg54 (hr29.det2 hr22)).elim) | (exact absurd (hr29.det2 hr22) hp54) | (exact absurd (hr29.det2 hr22) (of_decide_eq_false hg54)) | (exact (bneE hg54 (hr29.det3 hr22)).elim) | (exact absurd (hr29.det3 hr22) hp54) | (exact absurd (hr29.det3 hr22) (of_decide_eq_false hg54)) | (exact (tfX hg54).elim) | (exact (decF hg54).elim) | (exfalso; omega)
            · have hg54 := not_false hg55
              refine WL_qg rfl rfl hg55 rfl (ev_move rfl) ?_
              refine WL_qg rfl rfl hg55 rfl (ev_move rfl) ?_
              refine WL_qg rfl rfl hg55 rfl (ev_neq_b Try.underlying4 rfl rfl) ?_
              refine WL_q rfl (ev_pick_f rfl hg55 rfl) ?_
              refine WL_nil ?_
              refine thenE_n ?_
              refine W_cond rfl (fun hg60 => ?_) (fun hg60 => ?_)
              · refine W_seq ?_
                refine W_region ?_
                refine WL_q rfl (ev_assign rfl) ?_
                refine WL_nil ?_
                refine thenE_n ?_
                refine W_ret ?_
                refine thenE_r ?_
                refine ret1 rfl rfl ?_
                first | (exact ⟨rfl, hE⟩) | (exact (bneE hg60 (hr29.det1 hr22)).elim) | (exact absurd (hr29.det1 hr22) hp60) | (exact absurd (hr29.det1 hr22) (of_decide_eq_false hg60)) | (exact (bneE hg60 (hr29.det2 hr22)).elim) | (exact absurd (hr29.det2 hr22) hp60) | (exact absurd (hr29.det2 hr22) (of_decide_eq_false hg60)) | (exact (bneE hg60 (hr29.det3 hr22)).elim) | (exact absurd (hr29.det3 hr22) hp60) | (exact absurd (hr29.det3 hr22) (of_decide_eq_false hg60)) | (exact (tfX hg60).elim) | (exact (decF hg60).elim) | (exfalso; omega)
              · refine W_skip ?_
                refine thenE_n ?_
                refine W_seq ?_
                refine W_region ?_
                refine WL_q rfl (ev_assign rfl) ?_
                refine WL_nil ?_
                refine thenE_n ?_
                refine W_seq ?_
                refine W_region ?_
                refine WL_q rfl (ev_move rfl) ?_
                refine WL_q rfl (ev_move rfl) ?_
                refine WL_m rfl (ev_call rfl (markIntS_ownH hO29 (by omega) (by omega))) ?_
                rintro _ w64 ⟨rfl, hO64, hK64⟩
                have hz64 := hK64.size
                have hR64 := hK64
                replace hE := hE.rg hR64 (by omega)
                replace hA := hA.rg hR64 (by omega)
                replace hB1 := hB1.rg hR64 (by omega)
                replace hF21 := hF21.rg hR64 (by omega)
                replace hN21 := hN21.rg hR64 (by omega)
                replace hx22 := hx22.rg hR64 (by omega)
                replace hB6 := hB6.rg hR64 (by omega)
                replace hF43 := hF43.rg hR64 (by omega)
                replace hN43 := hN43.rg hR64 (by omega)
                replace hO29 := hO64
                refine WL_q rfl (ev_assign rfl) ?_
                refine WL_nil ?_
                refine thenE_n ?_
                refine W_seq ?_
                refine W_region ?_
                refine WL_q rfl (ev_assign rfl) ?_
                refine WL_nil ?_
                refine thenE_n ?_
                refine W_seq ?_
                refine W_region ?_
                refine WL_q rfl (ev_move rfl) ?_
                refine WL_q rfl (ev_move rfl) ?_
                refine WL_m rfl (ev_call rfl (heldIntS_spec _ _ (nums 1 y29.length) _ _ (Ints.of_own (nums_len _ _) hO29.1) rfl (by omega) (by omega))) ?_
                rintro _ w67 ⟨rfl, hE67⟩
                have hz67 := hE67.size
                replace hE := hE.trans hE67
                replace hA := hA.ext hE67
                replace hB1 := hB1.ext hE67
                replace hF21 := hF21.ext hE67
                replace hN21 := hN21.ext hE67
                replace hx22 := hx22.ext hE67
                replace hB6 := hB6.ext hE67
                replace hO29 := hO29.ext hE67
                replace hF43 := hF43.ext hE67
                replace hN43 := hN43.ext hE67
                refine WL_q rfl (ev_assign rfl) ?_
                refine WL_nil ?_
                refine thenE_n ?_
                refine W_seq ?_
                refine W_seq ?_
                refine W_region ?_
                refine WL_q rfl (ev_move rfl) ?_
                refine WL_q rfl (ev_lss rfl rfl) ?_
                refine WL_nil ?_
                refine thenE_n ?_
                refine W_cond rfl (fun hg69 => ?_) (fun hg69 => ?_)
                · have hp69 := of_decide_eq_true hg69
                  refine W_seq ?_
                  refine W_region ?_
                  refine WL_q rfl (ev_assign rfl) ?_
                  refine WL_nil ?_
                  refine thenE_n ?_
                  refine W_ret ?_
                  refine thenE_r ?_
                  refine ret1 rfl rfl ?_
                  first | (exact ⟨rfl, hE⟩) | (exact (bneE hg69 (hr29.det1 hr22)).elim) | (exact absurd (hr29.det1 hr22) hp69) | (exact absurd (hr29.det1 hr22) (of_decide_eq_false hg69)) | (exact (bneE hg69 (hr29.det2 hr22)).elim) | (exact absurd (hr29.det2 hr22) hp69) | (exact absurd (hr29.det2 hr22) (of_decide_eq_false hg69)) | (exact (bneE hg69 (hr29.det3 hr22)).elim) | (exact absurd (hr29.det3 hr22) hp69) | (exact absurd (hr29.det3 hr22) (of_decide_eq_false hg69)) | (exact (tfX hg69).elim) | (exact (decF hg69).elim) | (exfalso; omega)
                · have hp69 := of_decide_eq_false hg69
                  refine W_skip ?_
                  refine thenE_n ?_
                  refine W_seq ?_
                  refine W_seq ?_
                  refine W_region ?_
                  refine WL_q rfl (ev_move rfl) ?_
                  refine WL_q rfl (ev_move rfl) ?_
                  refine WL_q rfl (ev_neq rfl rfl) ?_
                  refine WL_nil ?_
                  refine thenE_n ?_
                  refine W_cond rfl (fun hg72 => ?_) (fun hg72 => ?_)
                  · have hp72 := of_decide_eq_true hg72
                    refine W_seq ?_
                    refine W_region ?_
                    refine WL_q rfl (ev_assign rfl) ?_
                    refine WL_nil ?_
                    refine thenE_n ?_
                    refine W_ret ?_
                    refine thenE_r ?_
                    refine ret1 rfl rfl ?_
                    first | (exact ⟨rfl, hE⟩) | (exact (bneE hg72 (hr29.det1 hr22)).elim) | (exact absurd (hr29.det1 hr22) hp72) | (exact absurd (hr29.det1 hr22) (of_decide_eq_false hg72)) | (exact (bneE hg72 (hr29.det2 hr22)).elim) | (exact absurd (hr29.det2 hr22) hp72) | (exact absurd (hr29.det2 hr22) (of_decide_eq_false hg72)) | (exact (bneE hg72 (hr29.det3 hr22)).elim) | (exact absurd (hr29.det3 hr22) hp72) | (exact absurd (hr29.det3 hr22) (of_decide_eq_false hg72)) | (exact (tfX hg72).elim) | (exact (decF hg72).elim) | (exfalso; omega)
                  · have hp72 := of_decide_eq_false hg72
                    refine W_skip ?_
                    refine thenE_n ?_
                    refine W_seq ?_
                    refine W_region ?_
                    refine WL_q rfl (ev_loads st25 sz25 rfl (cellsB hB1) rfl) ?_
                    refine WL_m rfl (ev_call rfl (toNetwork_spec _ A _ hA (by omega) (by omega))) ?_
                    rintro _ w75 ⟨h75, rfl, hF75, hE75⟩
                    have hz75 := hE75.size
                    replace hE := hE.trans hE75
                    replace hA := hA.ext hE75
                    replace hB1 := hB1.ext hE75
                    replace hF21 := hF21.ext hE75
                    replace hN21 := hN21.ext hE75
                    replace hx22 := hx22.ext hE75
                    replace hB6 := hB6.ext hE75
                    replace hO29 := hO29.ext hE75
                    replace hF43 := hF43.ext hE75
                    replace hN43 := hN43.ext hE75
                    have hN75 := hF75.is
                    refine WL_m rfl (ev_call rfl (OddW_spec _ A _ hN75 (by omega) (by omega))) ?_
                    rintro _ w76 ⟨a76, c76, y76, q76, rfl, hr76, hO76, hl76, hE76⟩
                    have hz76 := hE76.size
                    replace hE := hE.trans hE76
                    replace hA := hA.ext hE76
                    replace hB1 := hB1.ext hE76
                    replace hF21 := hF21.ext hE76
                    replace hN21 := hN21.ext hE76
                    replace hx22 := hx22.ext hE76
                    replace hB6 := hB6.ext hE76
                    replace hO29 := hO29.ext hE76
                    replace hF43 := hF43.ext hE76
                    replace hN43 := hN43.ext hE76
                    replace hF75 := hF75.ext hE76
                    replace hN75 := hN75.ext hE76
                    refine WL_q rfl (ev_move rfl) ?_
                    refine WL_q rfl (ev_extract rfl rfl) ?_
                    refine WL_q rfl (ev_extract rfl rfl) ?_
                    refine WL_q rfl (ev_assign rfl) ?_
                    refine WL_q rfl (ev_assign rfl) ?_
                    refine WL_nil ?_
                    refine thenE_n ?_
                    refine W_seq ?_
                    refine W_seq ?_
                    refine W_region ?_
                    refine WL_q rfl (ev_move rfl) ?_
                    refine WL_q rfl (ev_move rfl) ?_
                    refine WL_m rfl (ev_call rfl (eqIntS_spec _ _ _ _ y76 y22 _ (ownt_i hO76) hx22 (by omega))) ?_
                    rintro _ w81 ⟨rfl, hE81⟩
                    have hz81 := hE81.size
                    replace hE := hE.trans hE81
                    replace hA := hA.ext hE81
                    replace hB1 := hB1.ext hE81
                    replace hF21 := hF21.ext hE81
                    replace hN21 := hN21.ext hE81
                    replace hx22 := hx22.ext hE81
                    replace hB6 := hB6.ext hE81
                    replace hO29 := hO29.ext hE81
                    replace hF43 := hF43.ext hE81
                    replace hN43 := hN43.ext hE81
                    replace hF75 := hF75.ext hE81
                    replace hN75 := hN75.ext hE81
                    replace hO76 := hO76.ext hE81
                    refine WL_q rfl (ev_not rfl) ?_
                    refine WL_q rfl (ev_move rfl) ?_
                    refine WL_splitv (t := 83) rfl (fun hg82 => ?_) (fun hg82 => ?_)
                    · have hg81 := not_true hg82
                      refine WL_no rfl rfl hg82 rfl ?_
                      refine WL_no rfl rfl hg82 rfl ?_
                      refine WL_no rfl rfl hg82 rfl ?_
                      refine WL_q rfl (ev_pick_t rfl hg82 rfl) ?_
                      refine WL_nil ?_
                      refine thenE_n ?_
                      refine W_cond_t rfl ?_
                      refine W_seq ?_
                      refine W_region ?_
                      refine WL_q rfl (ev_assign rfl) ?_
                      refine WL_nil ?_
                      refine thenE_n ?_
                      refine W_ret ?_
                      refine thenE_r ?_
                      refine ret1 rfl rfl ?_
                      first | (exact ⟨rfl, hE⟩) | (exact (bneE hg81 (hr76.det1 hr22)).elim) | (exact absurd (hr76.det1 hr22) hp81) | (exact absurd (hr76.det1 hr22) (of_decide_eq_false hg81)) | (exact (bneE hg81 (hr76.det2 hr22)).elim) | (exact absurd (hr76.det2 hr22) hp81) | (exact absurd (hr76.det2 hr22) (of_decide_eq_false hg81)) | (exact (bneE hg81 (hr76.det3 hr22)).elim) | (exact absurd (hr76.det3 hr22) hp81) | (exact absurd (hr76.det3 hr22) (of_decide_eq_false hg81)) | (exact (bneE hg81 (hr29.det1 hr22)).elim) | (exact absurd (hr29.det1 hr22) hp81) | (exact absurd (hr29.det1 hr22) (of_decide_eq_false hg81)) | (exact (bneE hg81 (hr29.det2 hr22)).elim) | (exact absurd (hr29.det2 hr22) hp81) | (exact absurd (hr29.det2 hr22) (of_decide_eq_false hg81)) | (exact (bneE hg81 (hr29.det3 hr22)).elim) | (exact absurd (hr29.det3 hr22) hp81) | (exact absurd (hr29.det3 hr22) (of_decide_eq_false hg81)) | (exact (tfX hg81).elim) | (exact (decF hg81).elim) | (exfalso; omega)
                    · have hg81 := not_false hg82
                      refine WL_qg rfl rfl hg82 rfl (ev_move rfl) ?_
                      refine WL_qg rfl rfl hg82 rfl (ev_move rfl) ?_
                      refine WL_qg rfl rfl hg82 rfl (ev_neq_b Try.underlying4 rfl rfl) ?_
                      refine WL_q rfl (ev_pick_f rfl hg82 rfl) ?_
                      refine WL_nil ?_
                      refine thenE_n ?_
                      refine W_cond rfl (fun hg86 => ?_) (fun hg86 => ?_)
                      · refine W_seq ?_
                        refine W_region ?_
                        refine WL_q rfl (ev_assign rfl) ?_
                        refine WL_nil ?_
                        refine thenE_n ?_
                        refine W_ret ?_
                        refine thenE_r ?_
                        refine ret1 rfl rfl ?_
                        first | (exact ⟨rfl, hE⟩) | (exact (bneE hg86 (hr76.det1 hr22)).elim) | (exact absurd (hr76.det1 hr22) hp86) | (exact absurd (hr76.det1 hr22) (of_decide_eq_false hg86)) | (exact (bneE hg86 (hr76.det2 hr22)).elim) | (exact absurd (hr76.det2 hr22) hp86) | (exact absurd (hr76.det2 hr22) (of_decide_eq_false hg86)) | (exact (bneE hg86 (hr76.det3 hr22)).elim) | (exact absurd (hr76.det3 hr22) hp86) | (exact absurd (hr76.det3 hr22) (of_decide_eq_false hg86)) | (exact (bneE hg86 (hr29.det1 hr22)).elim) | (exact absurd (hr29.det1 hr22) hp86) | (exact absurd (hr29.det1 hr22) (of_decide_eq_false hg86)) | (exact (bneE hg86 (hr29.det2 hr22)).elim) | (exact absurd (hr29.det2 hr22) hp86) | (exact absurd (hr29.det2 hr22) (of_decide_eq_false hg86)) | (exact (bneE hg86 (hr29.det3 hr22)).elim) | (exact absurd (hr29.det3 hr22) hp86) | (exact absurd (hr29.det3 hr22) (of_decide_eq_false hg86)) | (exact (tfX hg86).elim) | (exact (decF hg86).elim) | (exfalso; omega)
                      · refine W_skip ?_
                        refine thenE_n ?_
                        refine W_seq ?_
                        refine W_region ?_
                        refine WL_q rfl (ev_assign rfl) ?_
                        refine WL_nil ?_
                        refine thenE_n ?_
                        refine W_seq ?_
                        refine W_region ?_
                        refine WL_q rfl (ev_move rfl) ?_
                        refine WL_q rfl (ev_move rfl) ?_
                        refine WL_m rfl (ev_call rfl (heldIntS_spec _ _ (nums 1 y29.length) _ _ (Ints.of_own (nums_len _ _) hO29.1) rfl (by omega) (by omega))) ?_
                        rintro _ w90 ⟨rfl, hE90⟩
                        have hz90 := hE90.size
                        replace hE := hE.trans hE90
                        replace hA := hA.ext hE90
                        replace hB1 := hB1.ext hE90
                        replace hF21 := hF21.ext hE90
                        replace hN21 := hN21.ext hE90
                        replace hx22 := hx22.ext hE90
                        replace hB6 := hB6.ext hE90
                        replace hO29 := hO29.ext hE90
                        replace hF43 := hF43.ext hE90
                        replace hN43 := hN43.ext hE90
                        replace hF75 := hF75.ext hE90
                        replace hN75 := hN75.ext hE90
                        replace hO76 := hO76.ext hE90
                        refine WL_q rfl (ev_assign rfl) ?_
                        refine WL_nil ?_
                        refine thenE_n ?_
                        refine W_seq ?_
                        refine W_seq ?_
                        refine W_region ?_
                        refine WL_q rfl (ev_move rfl) ?_
                        refine WL_q rfl (ev_lss rfl rfl) ?_
                        refine WL_nil ?_
                        refine thenE_n ?_
                        refine W_cond rfl (fun hg92 => ?_) (fun hg92 => ?_)
                        · have hp92 := of_decide_eq_true hg92
                          refine W_seq ?_
                          refine W_region ?_
                          refine WL_q rfl (ev_assign rfl) ?_
                          refine WL_nil ?_
                          refine thenE_n ?_
                          refine W_ret ?_
                          refine thenE_r ?_
                          refine ret1 rfl rfl ?_
                          first | (exact ⟨rfl, hE⟩) | (exact (bneE hg92 (hr76.det1 hr22)).elim) | (exact absurd (hr76.det1 hr22) hp92) | (exact absurd (hr76.det1 hr22) (of_decide_eq_false hg92)) | (exact (bneE hg92 (hr76.det2 hr22)).elim) | (exact absurd (hr76.det2 hr22) hp92) | (exact absurd (hr76.det2 hr22) (of_decide_eq_false hg92)) | (exact (bneE hg92 (hr76.det3 hr22)).elim) | (exact absurd (hr76.det3 hr22) hp92) | (exact absurd (hr76.det3 hr22) (of_decide_eq_false hg92)) | (exact (bneE hg92 (hr29.det1 hr22)).elim) | (exact absurd (hr29.det1 hr22) hp92) | (exact absurd (hr29.det1 hr22) (of_decide_eq_false hg92)) | (exact (bneE hg92 (hr29.det2 hr22)).elim) | (exact absurd (hr29.det2 hr22) hp92) | (exact absurd (hr29.det2 hr22) (of_decide_eq_false hg92)) | (exact (bneE hg92 (hr29.det3 hr22)).elim) | (exact absurd (hr29.det3 hr22) hp92) | (exact absurd (hr29.det3 hr22) (of_decide_eq_false hg92)) | (exact (tfX hg92).elim) | (exact (decF hg92).elim) | (exfalso; omega)
                        · have hp92 := of_decide_eq_false hg92
                          refine W_skip ?_
                          refine thenE_n ?_
                          refine W_seq ?_
                          refine W_seq ?_
                          refine W_region ?_
                          refine WL_q rfl (ev_move rfl) ?_
                          refine WL_q rfl (ev_move rfl) ?_
                          refine WL_q rfl (ev_neq rfl rfl) ?_
                          refine WL_nil ?_
                          refine thenE_n ?_
                          refine W_cond rfl (fun hg95 => ?_) (fun hg95 => ?_)
                          · have hp95 := of_decide_eq_true hg95
                            refine W_seq ?_
                            refine W_region ?_
                            refine WL_q rfl (ev_assign rfl) ?_
                            refine WL_nil ?_
                            refine thenE_n ?_
                            refine W_ret ?_
                            refine thenE_r ?_
                            refine ret1 rfl rfl ?_
                            first | (exact ⟨rfl, hE⟩) | (exact (bneE hg95 (hr76.det1 hr22)).elim) | (exact absurd (hr76.det1 hr22) hp95) | (exact absurd (hr76.det1 hr22) (of_decide_eq_false hg95)) | (exact (bneE hg95 (hr76.det2 hr22)).elim) | (exact absurd (hr76.det2 hr22) hp95) | (exact absurd (hr76.det2 hr22) (of_decide_eq_false hg95)) | (exact (bneE hg95 (hr76.det3 hr22)).elim) | (exact absurd (hr76.det3 hr22) hp95) | (exact absurd (hr76.det3 hr22) (of_decide_eq_false hg95)) | (exact (bneE hg95 (hr29.det1 hr22)).elim) | (exact absurd (hr29.det1 hr22) hp95) | (exact absurd (hr29.det1 hr22) (of_decide_eq_false hg95)) | (exact (bneE hg95 (hr29.det2 hr22)).elim) | (exact absurd (hr29.det2 hr22) hp95) | (exact absurd (hr29.det2 hr22) (of_decide_eq_false hg95)) | (exact (bneE hg95 (hr29.det3 hr22)).elim) | (exact absurd (hr29.det3 hr22) hp95) | (exact absurd (hr29.det3 hr22) (of_decide_eq_false hg95)) | (exact (tfX hg95).elim) | (exact (decF hg95).elim) | (exfalso; omega)
                          · have hp95 := of_decide_eq_false hg95
                            refine W_skip ?_
                            refine thenE_n ?_
                            refine W_seq ?_
                            refine W_region ?_
                            refine WL_q rfl (ev_assign rfl) ?_
                            refine WL_nil ?_
                            refine thenE_n ?_
                            refine W_ret ?_
                            refine ret1 rfl rfl ?_
                            first | (exact ⟨rfl, hE⟩) | (exact (bneE hg95 (hr76.det1 hr22)).elim) | (exact absurd (hr76.det1 hr22) hp95) | (exact absurd (hr76.det1 hr22) (of_decide_eq_false hg95)) | (exact (bneE hg95 (hr76.det2 hr22)).elim) | (exact absurd (hr76.det2 hr22) hp95) | (exact absurd (hr76.det2 hr22) (of_decide_eq_false hg95)) | (exact (bneE hg95 (hr76.det3 hr22)).elim) | (exact absurd (hr76.det3 hr22) hp95) | (exact absurd (hr76.det3 hr22) (of_decide_eq_false hg95)) | (exact (bneE hg95 (hr29.det1 hr22)).elim) | (exact absurd (hr29.det1 hr22) hp95) | (exact absurd (hr29.det1 hr22) (of_decide_eq_false hg95)) | (exact (bneE hg95 (hr29.det2 hr22)).elim) | (exact absurd (hr29.det2 hr22) hp95) | (exact absurd (hr29.det2 hr22) (of_decide_eq_false hg95)) | (exact (bneE hg95 (hr29.det3 hr22)).elim) | (exact absurd (hr29.det3 hr22) hp95) | (exact absurd (hr29.det3 hr22) (of_decide_eq_false hg95)) | (exact (tfX hg95).elim) | (exact (decF hg95).elim) | (exfalso; omega)

end Go.Proofs.Ytnngpblegbjfdaa
