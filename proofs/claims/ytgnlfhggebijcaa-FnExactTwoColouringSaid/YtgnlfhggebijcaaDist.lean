/- Contracts of DistancesFrom, BallOf and ShellSizes, of the program and of the reference; the walks of their laws. -/
import Derived.Test.YtgnlfhggebijcaaMetric2
import Derived.Test.YtgnlfhggebijcaaMarkI
import Derived.Test.YtgnlfhggebijcaaLists
namespace Go.Proofs.Ytgnlfhggebijcaa
open Go Go.RowKit

theorem inB_eq (n lo hi : Int) : inB n lo hi = inR n lo hi := rfl
/-- A valid network and a node of it. -/
def NN (A : Net) (v : Int) : Prop := NOk A ∧ HasNode A v
theorem NOk.sym {n : Net} (h : NOk n) : SymE n.ends := by
  intro x y h0 h1 hy
  rw [near_get h1] at hy
  obtain ⟨e, he, rfl⟩ := List.mem_map.1 hy
  obtain ⟨j, hj, rfl⟩ := List.mem_iff_getElem.1 he
  obtain ⟨k1, k2, k3, k4, k5⟩ := h.endOk h1 hj
  rw [near_get k2]
  refine List.mem_map.2 ⟨_, List.getElem_mem k4, ?_⟩
  rw [k5]
  show ((x.toNat : Nat) : Int) = x
  omega
theorem hasNode_in {A : Net} {v : Int} : inR v 0 ((A.ends.length : Int) - 1) = true ↔ HasNode A v := by
  rw [inR_true]; unfold HasNode; omega
theorem inB_t {n lo hi : Int} (h : lo ≤ n ∧ n ≤ hi) : inB n lo hi = true := by simp [inB, h]

theorem bfs_ex' {ends : Ends} (hk : EndsOk ends) {v : Int} (hv1 : 0 ≤ v) (hv2 : v.toNat < ends.length) : ∃ x ∈ bfs ends v, 0 ≤ x := by
  have hs := bfs_src hk hv1 hv2
  have hl := bfs_len hk hv1 hv2
  rw [getD_eq (by omega)] at hs
  exact ⟨_, List.getElem_mem _, by rw [hs]; omega⟩
theorem mmax_ge {xs : List Int} {i : Nat} (h : i < xs.length) : xs[i] ≤ mmax xs := (foldl_max_ge xs 0).2 _ (List.getElem_mem h)
/-- How many nodes have each distance. -/
def shl (ds : List Int) : List Int := shlN (mmax ds + 1).toNat ds ds.length

set_option maxRecDepth 100000 in
theorem neNode_spec {loA hiA : Nat} (nA : NA) (A : Net) (v : Int) (w : World) (hA : IsNet loA hiA w nA A) (hhiA : hiA ≤ w.heap.size) (hnA : totN A ≤ 1048576) :
    Fn Try.prog 52 #[netV nA A, VI v] w (fun o9 w' => ∃ b, o9 = VB b ∧ (b = true ↔ NN A v) ∧ Ext w w') := by
  have hqA := totL_len A.ends
  have hmA : totL A.ends + A.ids.length + A.inputs.length ≤ 1048576 := hnA
  have hE := Ext.refl w
  refine Fn_of Try.func52 rfl rfl (by kernel_rfl) rfl ?_
  refine W_seq ?_
  refine W_region ?_
  refine WL_m rfl (ev_box rfl) ?_
  rintro _ w2 ⟨rfl, hN2⟩
  have hz2 := hN2.size
  replace hE := hE.trans hN2.ext
  replace hA := hA.ext hN2.ext
  have hB2 : Blk w2 _ _ [_, _, _] := hN2.blk
  refine WL_q rfl (ev_assign rfl) ?_
  refine WL_nil ?_
  refine thenE_n ?_
  refine W_seq ?_
  refine W_region ?_
  refine WL_q rfl (ev_loads st31 sz31 rfl (cellsB hB2) rfl) ?_
  refine WL_m rfl (ev_call rfl (neGood_spec _ A _ hA (by omega) (by omega))) ?_
  rintro _ w6 ⟨b6, rfl, hb6, hE6⟩
  have hz6 := hE6.size
  replace hE := hE.trans hE6
  replace hA := hA.ext hE6
  replace hB2 := hB2.ext hE6
  refine WL_q rfl (ev_move rfl) ?_
  refine WL_splitv (t := 7) rfl (fun hg6 => ?_) (fun hg6 => ?_)
  · have hp6 := hb6.1 hg6
    refine WL_qg rfl rfl hg6 rfl (ev_move rfl) ?_
    refine WL_qg rfl rfl hg6 rfl (ev_fieldAddr fo31_0 rfl) ?_
    refine WL_qg rfl rfl hg6 rfl (ev_load one29 rfl (hB2.cell rfl)) ?_
    refine WL_qg rfl rfl hg6 rfl (ev_len Try.underlying29 rfl) ?_
    refine WL_qg rfl rfl hg6 rfl (ev_sub rfl rfl (by omega)) ?_
    refine WL_mg rfl rfl hg6 rfl (ev_call rfl (l1In_spec _ _ _ _)) ?_
    rintro _ _ ⟨rfl, rfl⟩
    refine WL_q rfl (ev_pick_t rfl hg6 rfl) ?_
    refine WL_q rfl (ev_assign rfl) ?_
    refine WL_nil ?_
    refine thenE_n ?_
    refine W_ret ?_
    refine ret1 rfl rfl ?_
    first | (exact ⟨_, rfl, ⟨fun h => ⟨hp6, hasNode_in.1 h⟩, fun h => hasNode_in.2 h.2⟩, hE⟩) | (exact ⟨_, rfl, ffI fun h => hp6 h.1, hE⟩)
  · have hp6 := ttN hb6 hg6
    refine WL_no rfl rfl hg6 rfl ?_
    refine WL_no rfl rfl hg6 rfl ?_
    refine WL_no rfl rfl hg6 rfl ?_
    refine WL_no rfl rfl hg6 rfl ?_
    refine WL_no rfl rfl hg6 rfl ?_
    refine WL_no rfl rfl hg6 rfl ?_
    refine WL_q rfl (ev_pick_f rfl hg6 rfl) ?_
    refine WL_q rfl (ev_assign rfl) ?_
    refine WL_nil ?_
    refine thenE_n ?_
    refine W_ret ?_
    refine ret1 rfl rfl ?_
    first | (exact ⟨_, rfl, ⟨fun h => ⟨hp6, hasNode_in.1 h⟩, fun h => hasNode_in.2 h.2⟩, hE⟩) | (exact ⟨_, rfl, ffI fun h => hp6 h.1, hE⟩)

set_option maxRecDepth 100000 in
theorem sDistancesFrom_spec {loA hiA : Nat} (nA : NA) (A : Net) (v : Int) (w : World) (hA : IsNet loA hiA w nA A) (hhiA : hiA ≤ w.heap.size) (hnA : totN A ≤ 1048576) :
    Fn Try.prog 16 #[netV nA A, VI v] w (fun o9 w' => ∃ a' c' ys q, o9 = .tuple #[.slice a' ys.length c', VB q] ∧ RV [] (opt (NN A v) (bfs A.ends v)) ys q ∧ Ints 0 w'.heap.size w' a' c' ys ∧ ys.length ≤ 1048576 ∧ Ext w w') := by
  have hqA := totL_len A.ends
  have hmA : totL A.ends + A.ids.length + A.inputs.length ≤ 1048576 := hnA
  have hE := Ext.refl w
  refine Fn_of Try.func16 rfl rfl (by kernel_rfl) rfl ?_
  refine W_seq ?_
  refine W_region ?_
  refine WL_m rfl (ev_box rfl) ?_
  rintro _ w2 ⟨rfl, hN2⟩
  have hz2 := hN2.size
  replace hE := hE.trans hN2.ext
  replace hA := hA.ext hN2.ext
  have hB2 : Blk w2 _ _ [_, _, _] := hN2.blk
  refine WL_q rfl (ev_assign rfl) ?_
  refine WL_q rfl (ev_assign rfl) ?_
  refine WL_nil ?_
  refine thenE_n ?_
  refine W_seq ?_
  refine W_seq ?_
  refine W_region ?_
  refine WL_q rfl (ev_loads st31 sz31 rfl (cellsB hB2) rfl) ?_
  refine WL_q rfl (ev_move rfl) ?_
  refine WL_m rfl (ev_call rfl (neNode_spec _ A _ _ hA (by omega) (by omega))) ?_
  rintro _ w8 ⟨b8, rfl, hb8, hE8⟩
  have hz8 := hE8.size
  replace hE := hE.trans hE8
  replace hA := hA.ext hE8
  replace hB2 := hB2.ext hE8
  refine WL_q rfl (ev_not rfl) ?_
  refine WL_nil ?_
  refine thenE_n ?_
  refine W_cond rfl (fun hg9 => ?_) (fun hg9 => ?_)
  · have hg8 := not_true hg9
    have hp8 := ttN hb8 hg8
    refine W_seq ?_
    refine W_region ?_
    refine WL_q rfl (ev_assign rfl) ?_
    refine WL_q rfl (ev_assign rfl) ?_
    refine WL_nil ?_
    refine thenE_n ?_
    refine W_ret ?_
    refine thenE_r ?_
    refine ret2 rfl rfl rfl ?_
    first | (exact ⟨none, 0, [], _, rfl, .no (fun h => hp8 h), Ints.nil, by simp, hE⟩) | (exact ⟨a12, c12, (bfs A.ends v), true, by rw [← hl0.symm], .yes hp8 rfl, (own_i (own_to hO12 rfl hl0.symm)).mono (Nat.zero_le _) (Nat.le_refl _), by omega, hE⟩)
  · have hg8 := not_false hg9
    have hp8 := hb8.1 hg8
    refine W_skip ?_
    refine thenE_n ?_
    refine W_seq ?_
    refine W_region ?_
    refine WL_q rfl (ev_loads st31 sz31 rfl (cellsB hB2) rfl) ?_
    refine WL_q rfl (ev_move rfl) ?_
    have hk := hp8.1.endsOk
    have hv1 := hp8.2.1
    have hv2 := hp8.2.2
    have hl0 := bfs_len hk hv1 hv2
    have hnd := hp8.1.nodes
    refine WL_m rfl (ev_call rfl (meFrom_spec _ A _ _ hA (by omega) (by omega) (by assumption) (by omega))) ?_
    rintro _ w12 ⟨a12, c12, rfl, hO12, hE12⟩
    have hz12 := hE12.size
    replace hE := hE.trans hE12
    replace hA := hA.ext hE12
    replace hB2 := hB2.ext hE12
    refine WL_q rfl (ev_assign rfl) ?_
    refine WL_q rfl (ev_assign rfl) ?_
    refine WL_nil ?_
    refine thenE_n ?_
    refine W_ret ?_
    refine ret2 rfl rfl rfl ?_
    first | (exact ⟨none, 0, [], _, rfl, .no (fun h => hp8 h), Ints.nil, by simp, hE⟩) | (exact ⟨a12, c12, (bfs A.ends v), true, by rw [← hl0.symm], .yes hp8 rfl, (own_i (own_to hO12 rfl hl0.symm)).mono (Nat.zero_le _) (Nat.le_refl _), by omega, hE⟩)

set_option maxRecDepth 100000 in
theorem DistancesFrom_spec {loA hiA : Nat} (nA : NA) (A : Net) (v : Int) (w : World) (hA : IsNet loA hiA w nA A) (hhiA : hiA ≤ w.heap.size) (hnA : totN A ≤ 1048576) :
    Fn Try.prog 18 #[netV nA A, VI v] w (fun o9 w' => ∃ a' c' ys q, o9 = .tuple #[.slice a' ys.length c', VB q] ∧ RV [] (opt (NN A v) (bfs A.ends v)) ys q ∧ OwnH w.heap.size w'.heap.size 0 0 w' 3 1 a' ys.length c' (ys.map VI) ∧ ys.length ≤ 1048576 ∧ Ext w w') := by
  have hqA := totL_len A.ends
  have hmA : totL A.ends + A.ids.length + A.inputs.length ≤ 1048576 := hnA
  have hE := Ext.refl w
  refine Fn_of Try.func18 rfl rfl (by kernel_rfl) rfl ?_
  refine W_seq ?_
  refine W_region ?_
  refine WL_m rfl (ev_box rfl) ?_
  rintro _ w2 ⟨rfl, hN2⟩
  have hz2 := hN2.size
  replace hE := hE.trans hN2.ext
  replace hA := hA.ext hN2.ext
  have hB2 : Blk w2 _ _ [_, _, _] := hN2.blk
  refine WL_q rfl (ev_assign rfl) ?_
  refine WL_q rfl (ev_assign rfl) ?_
  refine WL_nil ?_
  refine thenE_n ?_
  refine W_seq ?_
  refine W_seq ?_
  refine W_region ?_
  refine WL_q rfl (ev_loads st31 sz31 rfl (cellsB hB2) rfl) ?_
  refine WL_m rfl (ev_call rfl (IsNetwork_spec _ A _ hA (by omega) (by omega))) ?_
  rintro _ w7 ⟨b7, rfl, hb7, hE7⟩
  have hz7 := hE7.size
  replace hE := hE.trans hE7
  replace hA := hA.ext hE7
  replace hB2 := hB2.ext hE7
  refine WL_q rfl (ev_not rfl) ?_
  refine WL_q rfl (ev_move rfl) ?_
  refine WL_splitv (t := 9) rfl (fun hg8 => ?_) (fun hg8 => ?_)
  · have hg7 := not_true hg8
    have hp7 := ttN hb7 hg7
    refine WL_no rfl rfl hg8 rfl ?_
    refine WL_no rfl rfl hg8 rfl ?_
    refine WL_no rfl rfl hg8 rfl ?_
    refine WL_no rfl rfl hg8 rfl ?_
    refine WL_q rfl (ev_pick_t rfl hg8 rfl) ?_
    refine WL_nil ?_
    refine thenE_n ?_
    refine W_cond_t rfl ?_
    refine W_seq ?_
    refine W_region ?_
    refine WL_q rfl (ev_assign rfl) ?_
    refine WL_q rfl (ev_assign rfl) ?_
    refine WL_nil ?_
    refine thenE_n ?_
    refine W_ret ?_
    refine thenE_r ?_
    refine ret2 rfl rfl rfl ?_
    first | (exact ⟨none, 0, [], _, rfl, .no (fun h => hp7 h.1), OwnH.nil, by simp, hE⟩) | (exact ⟨none, 0, [], _, rfl, .no (fun h => hp12 h.2), OwnH.nil, by simp, hE⟩) | (exact ⟨a17, c17, (bfs A.ends v), true, by rw [← hl0.symm], .yes ⟨hp7, hp12⟩ rfl, (own_to hO17 rfl hl0.symm).h.up (by omega) (Nat.le_refl _), by omega, hE⟩)
  · have hg7 := not_false hg8
    have hp7 := hb7.1 hg7
    refine WL_qg rfl rfl hg8 rfl (ev_loads st31 sz31 rfl (cellsB hB2) rfl) ?_
    refine WL_qg rfl rfl hg8 rfl (ev_move rfl) ?_
    refine WL_mg rfl rfl hg8 rfl (ev_call rfl (hasNode_spec _ A _ _ (by omega))) ?_
    rintro _ w12 ⟨b12, rfl, hb12, hE12⟩
    have hz12 := hE12.size
    replace hE := hE.trans hE12
    replace hA := hA.ext hE12
    replace hB2 := hB2.ext hE12
    refine WL_qg rfl rfl hg8 rfl (ev_not rfl) ?_
    refine WL_q rfl (ev_pick_f rfl hg8 rfl) ?_
    refine WL_nil ?_
    refine thenE_n ?_
    refine W_cond rfl (fun hg13 => ?_) (fun hg13 => ?_)
    · have hg12 := not_true hg13
      have hp12 := ttN hb12 hg12
      refine W_seq ?_
      refine W_region ?_
      refine WL_q rfl (ev_assign rfl) ?_
      refine WL_q rfl (ev_assign rfl) ?_
      refine WL_nil ?_
      refine thenE_n ?_
      refine W_ret ?_
      refine thenE_r ?_
      refine ret2 rfl rfl rfl ?_
      first | (exact ⟨none, 0, [], _, rfl, .no (fun h => hp7 h.1), OwnH.nil, by simp, hE⟩) | (exact ⟨none, 0, [], _, rfl, .no (fun h => hp12 h.2), OwnH.nil, by simp, hE⟩) | (exact ⟨a17, c17, (bfs A.ends v), true, by rw [← hl0.symm], .yes ⟨hp7, hp12⟩ rfl, (own_to hO17 rfl hl0.symm).h.up (by omega) (Nat.le_refl _), by omega, hE⟩)
    · have hg12 := not_false hg13
      have hp12 := hb12.1 hg12
      refine W_skip ?_
      refine thenE_n ?_
      refine W_seq ?_
      refine W_region ?_
      refine WL_q rfl (ev_loads st31 sz31 rfl (cellsB hB2) rfl) ?_
      refine WL_q rfl (ev_move rfl) ?_
      have hk := hp7.endsOk
      have hv1 := hp12.1
      have hv2 := hp12.2
      have hl0 := bfs_len hk hv1 hv2
      have hnd := hp7.nodes
      refine WL_m rfl (ev_call rfl (dist_spec _ A _ _ hA (by omega) (by omega) (by assumption) (by omega))) ?_
      rintro _ w17 ⟨a17, c17, rfl, hO17, hE17⟩
      have hz17 := hE17.size
      replace hE := hE.trans hE17
      replace hA := hA.ext hE17
      replace hB2 := hB2.ext hE17
      refine WL_q rfl (ev_assign rfl) ?_
      refine WL_q rfl (ev_assign rfl) ?_
      refine WL_nil ?_
      refine thenE_n ?_
      refine W_ret ?_
      refine ret2 rfl rfl rfl ?_
      first | (exact ⟨none, 0, [], _, rfl, .no (fun h => hp7 h.1), OwnH.nil, by simp, hE⟩) | (exact ⟨none, 0, [], _, rfl, .no (fun h => hp12 h.2), OwnH.nil, by simp, hE⟩) | (exact ⟨a17, c17, (bfs A.ends v), true, by rw [← hl0.symm], .yes ⟨hp7, hp12⟩ rfl, (own_to hO17 rfl hl0.symm).h.up (by omega) (Nat.le_refl _), by omega, hE⟩)

set_option maxRecDepth 100000 in
theorem law_DistancesFrom (nA : NA) (A : Net) (v : Int) (w : World) (hA : IsNet 0 w.heap.size w nA A) (hsA : SmN A) (hiv : I64 v) :
    Fn Try.prog 3 #[netV nA A, VI v] w (fun v w' => v = VB true ∧ Ext w w') := by
  have hE := Ext.refl w
  refine Fn_of Try.func3 rfl rfl (by kernel_rfl) rfl ?_
  refine W_seq ?_
  refine W_region ?_
  refine WL_m rfl (ev_box rfl) ?_
  rintro _ w2 ⟨rfl, hN2⟩
  have hz2 := hN2.size
  replace hE := hE.trans hN2.ext
  replace hA := hA.ext hN2.ext
  have hB2 : Blk w2 _ _ [_, _, _] := hN2.blk
  refine WL_q rfl (ev_assign rfl) ?_
  refine WL_nil ?_
  refine thenE_n ?_
  refine W_seq ?_
  refine W_region ?_
  refine WL_q rfl (ev_assign rfl) ?_
  refine WL_nil ?_
  refine thenE_n ?_
  refine W_seq ?_
  refine W_region ?_
  refine WL_q rfl (ev_loads st25 sz25 rfl (cellsB hB2) rfl) ?_
  refine WL_q rfl (ev_move rfl) ?_
  refine WL_m rfl (ev_call rfl (szNetwork_spec _ A _ _ hA (by omega) hsA)) ?_
  rintro _ w18 ⟨r18, rfl, hE18, hr18⟩
  have hz18 := hE18.size
  replace hE := hE.trans hE18
  replace hA := hA.ext hE18
  replace hB2 := hB2.ext hE18
  refine WL_q rfl (ev_assign rfl) ?_
  refine WL_nil ?_
  refine thenE_n ?_
  refine W_seq ?_
  refine W_seq ?_
  refine W_region ?_
  refine WL_q rfl (ev_move rfl) ?_
  refine WL_q rfl (ev_lss rfl rfl) ?_
  refine WL_nil ?_
  refine thenE_n ?_
  refine W_cond rfl (fun hg20 => ?_) (fun hg20 => ?_)
  · have hp20 := of_decide_eq_true hg20
    refine W_seq ?_
    refine W_region ?_
    refine WL_q rfl (ev_assign rfl) ?_
    refine WL_nil ?_
    refine thenE_n ?_
    refine W_ret ?_
    refine thenE_r ?_
    refine ret1 rfl rfl ?_
    first | (exact ⟨rfl, hE⟩) | (exact (tfX hg20).elim) | (exact (decF hg20).elim) | (exfalso; omega)
  · have hp20 := of_decide_eq_false hg20
    refine W_skip ?_
    refine thenE_n ?_
    refine W_seq ?_
    refine W_region ?_
    refine WL_q rfl (ev_loads st25 sz25 rfl (cellsB hB2) rfl) ?_
    refine WL_m rfl (ev_call rfl (toNetwork_spec _ A _ hA (by omega) (by omega))) ?_
    rintro _ w23 ⟨h23, rfl, hF23, hE23⟩
    have hz23 := hE23.size
    replace hE := hE.trans hE23
    replace hA := hA.ext hE23
    replace hB2 := hB2.ext hE23
    have hN23 := hF23.is
    refine WL_q rfl (ev_move rfl) ?_
    refine WL_m rfl (ev_call rfl (sDistancesFrom_spec _ A _ _ hN23 (by omega) (by omega))) ?_
    rintro _ w25 ⟨a25, c25, y25, q25, rfl, hr25, hx25, hl25, hE25⟩
    have hz25 := hE25.size
    replace hE := hE.trans hE25
    replace hA := hA.ext hE25
    replace hB2 := hB2.ext hE25
    replace hF23 := hF23.ext hE25
    replace hN23 := hN23.ext hE25
    refine WL_q rfl (ev_move rfl) ?_
    refine WL_q rfl (ev_extract rfl rfl) ?_
    refine WL_q rfl (ev_extract rfl rfl) ?_
    refine WL_q rfl (ev_assign rfl) ?_
    refine WL_q rfl (ev_assign rfl) ?_
    refine WL_nil ?_
    refine thenE_n ?_
    refine W_seq ?_
    refine W_region ?_
    refine WL_q rfl (ev_loads st25 sz25 rfl (cellsB hB2) rfl) ?_
    refine WL_m rfl (ev_call rfl (toNetwork_spec _ A _ hA (by omega) (by omega))) ?_
    rintro _ w29 ⟨h29, rfl, hF29, hE29⟩
    have hz29 := hE29.size
    replace hE := hE.trans hE29
    replace hA := hA.ext hE29
    replace hB2 := hB2.ext hE29
    replace hF23 := hF23.ext hE29
    replace hN23 := hN23.ext hE29
    replace hx25 := hx25.ext hE29
    have hN29 := hF29.is
    refine WL_m rfl (ev_alloc zr31) ?_
    rintro _ w8 ⟨rfl, hN8⟩
    have hz8 := hN8.size
    replace hE := hE.trans hN8.ext
    replace hA := hA.ext hN8.ext
    replace hB2 := hB2.ext hN8.ext
    replace hF23 := hF23.ext hN8.ext
    replace hN23 := hN23.ext hN8.ext
    replace hx25 := hx25.ext hN8.ext
    replace hF29 := hF29.ext hN8.ext
    replace hN29 := hN29.ext hN8.ext
    have hB8 : Blk w8 _ _ [_, _, _] := hN8.blk
    refine WL_s (ev_stores sz31 rfl rfl rfl (by simp [Value.oneCell']) hB8 (by simp)) ?_
    rintro _ w6_3 hS6_3
    have hz6_3 := hS6_3.size
    replace hE := hE.sto hS6_3 (by omega)
    replace hA := hA.sto hS6_3 (by omega)
    replace hB2 := hB2.sto hS6_3 (by omega)
    replace hF23 := hF23.sto hS6_3 (by omega)
    replace hN23 := hN23.sto hS6_3 (by omega)
    replace hx25 := hx25.sto hS6_3 (by omega)
    replace hF29 := hF29.sto hS6_3 (by omega)
    replace hN29 := hN29.sto hS6_3 (by omega)
    replace hB8 : Blk w6_3 _ _ [_, _, _] := hS6_3.blk
    refine WL_nil ?_
    refine thenE_n ?_
    refine W_seq ?_
    refine W_region ?_
    refine WL_q rfl (ev_loads st31 sz31 rfl (cellsB hB8) rfl) ?_
    refine WL_q rfl (ev_move rfl) ?_
    refine WL_m rfl (ev_call rfl (DistancesFrom_spec _ A _ _ hN29 (by omega) (by omega))) ?_
    rintro _ w33 ⟨a33, c33, y33, q33, rfl, hr33, hO33, hl33, hE33⟩
    have hz33 := hE33.size
    replace hE := hE.trans hE33
    replace hA := hA.ext hE33
    replace hB2 := hB2.ext hE33
    replace hF23 := hF23.ext hE33
    replace hN23 := hN23.ext hE33
    replace hx25 := hx25.ext hE33
    replace hF29 := hF29.ext hE33
    replace hN29 := hN29.ext hE33
    replace hB8 := hB8.ext hE33
    refine WL_q rfl (ev_move rfl) ?_
    refine WL_q rfl (ev_extract rfl rfl) ?_
    refine WL_q rfl (ev_extract rfl rfl) ?_
    refine WL_q rfl (ev_assign rfl) ?_
    refine WL_q rfl (ev_assign rfl) ?_
    refine WL_nil ?_
    refine thenE_n ?_
    refine W_seq ?_
    refine W_seq ?_
    refine W_region ?_
    refine WL_q rfl (ev_move rfl) ?_
    refine WL_q rfl (ev_move rfl) ?_
    refine WL_m rfl (ev_call rfl (eqIntS_spec _ _ _ _ y33 y25 _ (ownt_i hO33) hx25 (by omega))) ?_
    rintro _ w38 ⟨rfl, hE38⟩
    have hz38 := hE38.size
    replace hE := hE.trans hE38
    replace hA := hA.ext hE38
    replace hB2 := hB2.ext hE38
    replace hF23 := hF23.ext hE38
    replace hN23 := hN23.ext hE38
    replace hx25 := hx25.ext hE38
    replace hF29 := hF29.ext hE38
    replace hN29 := hN29.ext hE38
    replace hB8 := hB8.ext hE38
    replace hO33 := hO33.ext hE38
    refine WL_q rfl (ev_not rfl) ?_
    refine WL_q rfl (ev_move rfl) ?_
    refine WL_splitv (t := 40) rfl (fun hg39 => ?_) (fun hg39 => ?_)
    · have hg38 := not_true hg39
      refine WL_no rfl rfl hg39 rfl ?_
      refine WL_no rfl rfl hg39 rfl ?_
      refine WL_no rfl rfl hg39 rfl ?_
      refine WL_q rfl (ev_pick_t rfl hg39 rfl) ?_
      refine WL_nil ?_
      refine thenE_n ?_
      refine W_cond_t rfl ?_
      refine W_seq ?_
      refine W_region ?_
      refine WL_q rfl (ev_assign rfl) ?_
      refine WL_nil ?_
      refine thenE_n ?_
      refine W_ret ?_
      refine thenE_r ?_
      refine ret1 rfl rfl ?_
      first | (exact ⟨rfl, hE⟩) | (exact (bneE hg38 (hr33.det1 hr25)).elim) | (exact absurd (hr33.det1 hr25) hp38) | (exact absurd (hr33.det1 hr25) (of_decide_eq_false hg38)) | (exact (bneE hg38 (hr33.det2 hr25)).elim) | (exact absurd (hr33.det2 hr25) hp38) | (exact absurd (hr33.det2 hr25) (of_decide_eq_false hg38)) | (exact (bneE hg38 (hr33.det3 hr25)).elim) | (exact absurd (hr33.det3 hr25) hp38) | (exact absurd (hr33.det3 hr25) (of_decide_eq_false hg38)) | (exact (tfX hg38).elim) | (exact (decF hg38).elim) | (exfalso; omega)
    · have hg38 := not_false hg39
      refine WL_qg rfl rfl hg39 rfl (ev_move rfl) ?_
      refine WL_qg rfl rfl hg39 rfl (ev_move rfl) ?_
      refine WL_qg rfl rfl hg39 rfl (ev_neq_b Try.underlying4 rfl rfl) ?_
      refine WL_q rfl (ev_pick_f rfl hg39 rfl) ?_
      refine WL_nil ?_
      refine thenE_n ?_
      refine W_cond rfl (fun hg43 => ?_) (fun hg43 => ?_)
      · refine W_seq ?_
        refine W_region ?_
        refine WL_q rfl (ev_assign rfl) ?_
        refine WL_nil ?_
        refine thenE_n ?_
        refine W_ret ?_
        refine thenE_r ?_
        refine ret1 rfl rfl ?_
        first | (exact ⟨rfl, hE⟩) | (exact (bneE hg43 (hr33.det1 hr25)).elim) | (exact absurd (hr33.det1 hr25) hp43) | (exact absurd (hr33.det1 hr25) (of_decide_eq_false hg43)) | (exact (bneE hg43 (hr33.det2 hr25)).elim) | (exact absurd (hr33.det2 hr25) hp43) | (exact absurd (hr33.det2 hr25) (of_decide_eq_false hg43)) | (exact (bneE hg43 (hr33.det3 hr25)).elim) | (exact absurd (hr33.det3 hr25) hp43) | (exact absurd (hr33.det3 hr25) (of_decide_eq_false hg43)) | (exact (tfX hg43).elim) | (exact (decF hg43).elim) | (exfalso; omega)
      · refine W_skip ?_
        refine thenE_n ?_
        refine W_seq ?_
        refine W_seq ?_
        refine W_drawE [(0, true), (1, true), (2, false), (3, false), (4, true)] mixed (by kernel_rfl) rfl (by kernel_rfl) ?_
        intro wd10 hEd10 hzd10
        replace hE := hE.trans hEd10
        replace hA := hA.ext hEd10
        replace hB2 := hB2.ext hEd10
        replace hF23 := hF23.ext hEd10
        replace hN23 := hN23.ext hEd10
        replace hx25 := hx25.ext hEd10
        replace hF29 := hF29.ext hEd10
        replace hN29 := hN29.ext hEd10
        replace hB8 := hB8.ext hEd10
        replace hO33 := hO33.ext hEd10
        have hDd10 := Ext.refl wd10
        refine PW_q rfl rfl (fun wq hq => ev_loads st31 sz31 rfl (cellsB (hq.blk hB8)) rfl) ?_
        refine PW_q rfl rfl (fun wq hq => ev_loads st25 sz25 rfl (cellsB (hq.blk hB2)) rfl) ?_
        refine PW_m rfl rfl (ev_call rfl (toNetwork_spec _ A _ hA (by omega) (by omega))) ?_
        rintro _ w47 ⟨h47, rfl, hF47, hE47⟩
        have hz47 := hE47.size
        replace hE := hE.trans hE47
        replace hDd10 := hDd10.trans hE47
        have hN47 := hF47.is
        refine ⟨hDd10, ?_⟩
        have hA_3 := hA.ext hDd10
        have hB2_3 := hB2.ext hDd10
        have hF23_3 := hF23.ext hDd10
        have hN23_3 := hN23.ext hDd10
        have hx25_3 := hx25.ext hDd10
        have hF29_3 := hF29.ext hDd10
        have hN29_3 := hN29.ext hDd10
        have hB8_3 := hB8.ext hDd10
        have hO33_3 := hO33.ext hDd10
        refine PW_m rfl rfl (ev_call rfl (eqNetwork_spec _ _ A _ hN29_3 hN47 (by omega))) ?_
        rintro _ w48 ⟨rfl, hE48⟩
        have hz48 := hE48.size
        replace hE := hE.trans hE48
        replace hDd10 := hDd10.trans hE48
        replace hF47 := hF47.ext hE48
        replace hN47 := hN47.ext hE48
        refine ⟨hDd10, ?_⟩
        refine PW_q rfl rfl (fun wq hq => ev_not rfl) ?_
        replace hA := hA.ext hDd10
        replace hB2 := hB2.ext hDd10
        replace hF23 := hF23.ext hDd10
        replace hN23 := hN23.ext hDd10
        replace hx25 := hx25.ext hDd10
        replace hF29 := hF29.ext hDd10
        replace hN29 := hN29.ext hDd10
        replace hB8 := hB8.ext hDd10
        replace hO33 := hO33.ext hDd10
        refine PW_nil ?_
        refine thenE_n ?_
        refine W_cond rfl (fun hg49 => ?_) (fun hg49 => ?_)
        · have hg48 := not_true hg49
          refine W_seq ?_
          refine W_region ?_
          refine WL_q rfl (ev_assign rfl) ?_
          refine WL_nil ?_
          refine thenE_n ?_
          refine W_ret ?_
          refine thenE_r ?_
          refine ret1 rfl rfl ?_
          first | (exact ⟨rfl, hE⟩) | (exact (bneE hg48 (hr33.det1 hr25)).elim) | (exact absurd (hr33.det1 hr25) hp48) | (exact absurd (hr33.det1 hr25) (of_decide_eq_false hg48)) | (exact (bneE hg48 (hr33.det2 hr25)).elim) | (exact absurd (hr33.det2 hr25) hp48) | (exact absurd (hr33.det2 hr25) (of_decide_eq_false hg48)) | (exact (bneE hg48 (hr33.det3 hr25)).elim) | (exact absurd (hr33.det3 hr25) hp48) | (exact absurd (hr33.det3 hr25) (of_decide_eq_false hg48)) | (exact (tfX hg48).elim) | (exact (decF hg48).elim) | (exfalso; omega)
        · have hg48 := not_false hg49
          refine W_skip ?_
          refine thenE_n ?_
          refine W_seq ?_
          refine W_region ?_
          refine WL_q rfl (ev_assign rfl) ?_
          refine WL_nil ?_
          refine thenE_n ?_
          refine W_seq ?_
          refine W_region ?_
          refine WL_q rfl (ev_loads st31 sz31 rfl (cellsB hB8) rfl) ?_
          refine WL_q rfl (ev_move rfl) ?_
          refine WL_m rfl (ev_call rfl (markNetwork_spec _ A _ _ hF29 (by omega) (by omega) (by omega))) ?_
          rintro _ w52 ⟨r52, rfl, hr52, hK52⟩
          have hz52 := hK52.size
          replace hE := hE.mrk hK52 (by omega)
          replace hA := hA.mrk hK52 (by omega)
          replace hB2 := hB2.mrk hK52 (by omega)
          replace hF23 := hF23.mrk hK52 (by omega)
          replace hN23 := hN23.mrk hK52 (by omega)
          replace hx25 := hx25.mrk hK52 (by omega)
          replace hB8 := hB8.mrk hK52 (by omega)
          replace hO33 := hO33.mrk hK52 (by omega)
          replace hF47 := hF47.mrk hK52 (by omega)
          replace hN47 := hN47.mrk hK52 (by omega)
          refine WL_q rfl (ev_assign rfl) ?_
          refine WL_nil ?_
          refine thenE_n ?_
          refine W_seq ?_
          refine W_seq ?_
          refine W_region ?_
          refine WL_q rfl (ev_move rfl) ?_
          refine WL_q rfl (ev_lss rfl rfl) ?_
          refine WL_q rfl (ev_move rfl) ?_
          refine WL_splitv (t := 55) rfl (fun hg54 => ?_) (fun hg54 => ?_)
          · have hp54 := of_decide_eq_true hg54
            refine WL_no rfl rfl hg54 rfl ?_
            refine WL_no rfl rfl hg54 rfl ?_
            refine WL_no rfl rfl hg54 rfl ?_
            refine WL_no rfl rfl hg54 rfl ?_
            refine WL_q rfl (ev_pick_t rfl hg54 rfl) ?_
            refine WL_q rfl (ev_move rfl) ?_
            refine WL_no rfl rfl rfl rfl ?_
            refine WL_no rfl rfl rfl rfl ?_
            refine WL_no rfl rfl rfl rfl ?_
            refine WL_q rfl (ev_pick_t rfl rfl rfl) ?_
            refine WL_nil ?_
            refine thenE_n ?_
            refine W_cond_t rfl ?_
            refine W_seq ?_
            refine W_region ?_
            refine WL_q rfl (ev_assign rfl) ?_
            refine WL_nil ?_
            refine thenE_n ?_
            refine W_ret ?_
            refine thenE_r ?_
            refine ret1 rfl rfl ?_
            first | (exact ⟨rfl, hE⟩) | (exact (bneE hg54 (hr33.det1 hr25)).elim) | (exact absurd (hr33.det1 hr25) hp54) | (exact absurd (hr33.det1 hr25) (of_decide_eq_false hg54)) | (exact (bneE hg54 (hr33.det2 hr25)).elim) | (exact absurd (hr33.det2 hr25) hp54) | (exact absurd (hr33.det2 hr25) (of_decide_eq_false hg54)) | (exact (bneE hg54 (hr33.det3 hr25)).elim) | (exact absurd (hr33.det3 hr25) hp54) | (exact absurd (hr33.det3 hr25) (of_decide_eq_false hg54)) | (exact (tfX hg54).elim) | (exact (decF hg54).elim) | (exfalso; omega)
          · have hp54 := of_decide_eq_false hg54
            refine WL_qg rfl rfl hg54 rfl (ev_move rfl) ?_
            refine WL_qg rfl rfl hg54 rfl (ev_move rfl) ?_
            refine WL_mg rfl rfl hg54 rfl (ev_call rfl (eqIntS_spec _ _ _ _ y33 y25 _ (ownt_i hO33) hx25 (by omega))) ?_
            rintro _ w58 ⟨rfl, hE58⟩
            have hz58 := hE58.size
            replace hE := hE.trans hE58
            replace hA := hA.ext hE58
            replace hB2 := hB2.ext hE58
            replace hF23 := hF23.ext hE58
            replace hN23 := hN23.ext hE58
            replace hx25 := hx25.ext hE58
            replace hB8 := hB8.ext hE58
            replace hO33 := hO33.ext hE58
            replace hF47 := hF47.ext hE58
            replace hN47 := hN47.ext hE58
            refine WL_qg rfl rfl hg54 rfl (ev_not rfl) ?_
            refine WL_q rfl (ev_pick_f rfl hg54 rfl) ?_
            refine WL_q rfl (ev_move rfl) ?_
            refine WL_splitv (t := 61) rfl (fun hg59 => ?_) (fun hg59 => ?_)
            · have hg58 := not_true hg59
              refine WL_no rfl rfl hg59 rfl ?_
              refine WL_no rfl rfl hg59 rfl ?_
              refine WL_no rfl rfl hg59 rfl ?_
              refine WL_q rfl (ev_pick_t rfl hg59 rfl) ?_
              refine WL_nil ?_
              refine thenE_n ?_
              refine W_cond_t rfl ?_
              refine W_seq ?_
              refine W_region ?_
              refine WL_q rfl (ev_assign rfl) ?_
              refine WL_nil ?_
              refine thenE_n ?_
              refine W_ret ?_
              refine thenE_r ?_
              refine ret1 rfl rfl ?_
              first | (exact ⟨rfl, hE⟩) | (exact (bneE hg58 (hr33.det1 hr25)).elim) | (exact absurd (hr33.det1 hr25) hp58) | (exact absurd (hr33.det1 hr25) (of_decide_eq_false hg58)) | (exact (bneE hg58 (hr33.det2 hr25)).elim) | (exact absurd (hr33.det2 hr25) hp58) | (exact absurd (hr33.det2 hr25) (of_decide_eq_false hg58)) | (exact (bneE hg58 (hr33.det3 hr25)).elim) | (exact absurd (hr33.det3 hr25) hp58) | (exact absurd (hr33.det3 hr25) (of_decide_eq_false hg58)) | (exact (tfX hg58).elim) | (exact (decF hg58).elim) | (exfalso; omega)
            · have hg58 := not_false hg59
              refine WL_qg rfl rfl hg59 rfl (ev_move rfl) ?_
              refine WL_qg rfl rfl hg59 rfl (ev_move rfl) ?_
              refine WL_qg rfl rfl hg59 rfl (ev_neq_b Try.underlying4 rfl rfl) ?_
              refine WL_q rfl (ev_pick_f rfl hg59 rfl) ?_
              refine WL_nil ?_
              refine thenE_n ?_
              refine W_cond rfl (fun hg64 => ?_) (fun hg64 => ?_)
              · refine W_seq ?_
                refine W_region ?_
                refine WL_q rfl (ev_assign rfl) ?_
                refine WL_nil ?_
                refine thenE_n ?_
                refine W_ret ?_
                refine thenE_r ?_
                refine ret1 rfl rfl ?_
                first | (exact ⟨rfl, hE⟩) | (exact (bneE hg64 (hr33.det1 hr25)).elim) | (exact absurd (hr33.det1 hr25) hp64) | (exact absurd (hr33.det1 hr25) (of_decide_eq_false hg64)) | (exact (bneE hg64 (hr33.det2 hr25)).elim) | (exact absurd (hr33.det2 hr25) hp64) | (exact absurd (hr33.det2 hr25) (of_decide_eq_false hg64)) | (exact (bneE hg64 (hr33.det3 hr25)).elim) | (exact absurd (hr33.det3 hr25) hp64) | (exact absurd (hr33.det3 hr25) (of_decide_eq_false hg64)) | (exact (tfX hg64).elim) | (exact (decF hg64).elim) | (exfalso; omega)
              · refine W_skip ?_
                refine thenE_n ?_
                refine W_seq ?_
                refine W_region ?_
                refine WL_q rfl (ev_assign rfl) ?_
                refine WL_nil ?_
                refine thenE_n ?_
                refine W_seq ?_
                refine W_region ?_
                refine WL_q rfl (ev_move rfl) ?_
                refine WL_q rfl (ev_move rfl) ?_
                refine WL_m rfl (ev_call rfl (markIntS_ownH hO33 (by omega) (by omega))) ?_
                rintro _ w68 ⟨rfl, hO68, hK68⟩
                have hz68 := hK68.size
                have hR68 := hK68
                replace hE := hE.rg hR68 (by omega)
                replace hA := hA.rg hR68 (by omega)
                replace hB2 := hB2.rg hR68 (by omega)
                replace hF23 := hF23.rg hR68 (by omega)
                replace hN23 := hN23.rg hR68 (by omega)
                replace hx25 := hx25.rg hR68 (by omega)
                replace hB8 := hB8.rg hR68 (by omega)
                replace hF47 := hF47.rg hR68 (by omega)
                replace hN47 := hN47.rg hR68 (by omega)
                replace hO33 := hO68
                refine WL_q rfl (ev_assign rfl) ?_
                refine WL_nil ?_
                refine thenE_n ?_
                refine W_seq ?_
                refine W_region ?_
                refine WL_q rfl (ev_assign rfl) ?_
                refine WL_nil ?_
                refine thenE_n ?_
                refine W_seq ?_
                refine W_region ?_
                refine WL_q rfl (ev_move rfl) ?_
                refine WL_q rfl (ev_move rfl) ?_
                refine WL_m rfl (ev_call rfl (heldIntS_spec _ _ (nums 1 y33.length) _ _ (Ints.of_own (nums_len _ _) hO33.1) rfl (by omega) (by omega))) ?_
                rintro _ w71 ⟨rfl, hE71⟩
                have hz71 := hE71.size
                replace hE := hE.trans hE71
                replace hA := hA.ext hE71
                replace hB2 := hB2.ext hE71
                replace hF23 := hF23.ext hE71
                replace hN23 := hN23.ext hE71
                replace hx25 := hx25.ext hE71
                replace hB8 := hB8.ext hE71
                replace hO33 := hO33.ext hE71
                replace hF47 := hF47.ext hE71
                replace hN47 := hN47.ext hE71
                refine WL_q rfl (ev_assign rfl) ?_
                refine WL_nil ?_
                refine thenE_n ?_
                refine W_seq ?_
                refine W_seq ?_
                refine W_region ?_
                refine WL_q rfl (ev_move rfl) ?_
                refine WL_q rfl (ev_lss rfl rfl) ?_
                refine WL_nil ?_
                refine thenE_n ?_
                refine W_cond rfl (fun hg73 => ?_) (fun hg73 => ?_)
                · have hp73 := of_decide_eq_true hg73
                  refine W_seq ?_
                  refine W_region ?_
                  refine WL_q rfl (ev_assign rfl) ?_
                  refine WL_nil ?_
                  refine thenE_n ?_
                  refine W_ret ?_
                  refine thenE_r ?_
                  refine ret1 rfl rfl ?_
                  first | (exact ⟨rfl, hE⟩) | (exact (bneE hg73 (hr33.det1 hr25)).elim) | (exact absurd (hr33.det1 hr25) hp73) | (exact absurd (hr33.det1 hr25) (of_decide_eq_false hg73)) | (exact (bneE hg73 (hr33.det2 hr25)).elim) | (exact absurd (hr33.det2 hr25) hp73) | (exact absurd (hr33.det2 hr25) (of_decide_eq_false hg73)) | (exact (bneE hg73 (hr33.det3 hr25)).elim) | (exact absurd (hr33.det3 hr25) hp73) | (exact absurd (hr33.det3 hr25) (of_decide_eq_false hg73)) | (exact (tfX hg73).elim) | (exact (decF hg73).elim) | (exfalso; omega)
                · have hp73 := of_decide_eq_false hg73
                  refine W_skip ?_
                  refine thenE_n ?_
                  refine W_seq ?_
                  refine W_seq ?_
                  refine W_region ?_
                  refine WL_q rfl (ev_move rfl) ?_
                  refine WL_q rfl (ev_move rfl) ?_
                  refine WL_q rfl (ev_neq rfl rfl) ?_
                  refine WL_nil ?_
                  refine thenE_n ?_
                  refine W_cond rfl (fun hg76 => ?_) (fun hg76 => ?_)
                  · have hp76 := of_decide_eq_true hg76
                    refine W_seq ?_
                    refine W_region ?_
                    refine WL_q rfl (ev_assign rfl) ?_
                    refine WL_nil ?_
                    refine thenE_n ?_
                    refine W_ret ?_
                    refine thenE_r ?_
                    refine ret1 rfl rfl ?_
                    first | (exact ⟨rfl, hE⟩) | (exact (bneE hg76 (hr33.det1 hr25)).elim) | (exact absurd (hr33.det1 hr25) hp76) | (exact absurd (hr33.det1 hr25) (of_decide_eq_false hg76)) | (exact (bneE hg76 (hr33.det2 hr25)).elim) | (exact absurd (hr33.det2 hr25) hp76) | (exact absurd (hr33.det2 hr25) (of_decide_eq_false hg76)) | (exact (bneE hg76 (hr33.det3 hr25)).elim) | (exact absurd (hr33.det3 hr25) hp76) | (exact absurd (hr33.det3 hr25) (of_decide_eq_false hg76)) | (exact (tfX hg76).elim) | (exact (decF hg76).elim) | (exfalso; omega)
                  · have hp76 := of_decide_eq_false hg76
                    refine W_skip ?_
                    refine thenE_n ?_
                    refine W_seq ?_
                    refine W_region ?_
                    refine WL_q rfl (ev_loads st25 sz25 rfl (cellsB hB2) rfl) ?_
                    refine WL_m rfl (ev_call rfl (toNetwork_spec _ A _ hA (by omega) (by omega))) ?_
                    rintro _ w79 ⟨h79, rfl, hF79, hE79⟩
                    have hz79 := hE79.size
                    replace hE := hE.trans hE79
                    replace hA := hA.ext hE79
                    replace hB2 := hB2.ext hE79
                    replace hF23 := hF23.ext hE79
                    replace hN23 := hN23.ext hE79
                    replace hx25 := hx25.ext hE79
                    replace hB8 := hB8.ext hE79
                    replace hO33 := hO33.ext hE79
                    replace hF47 := hF47.ext hE79
                    replace hN47 := hN47.ext hE79
                    have hN79 := hF79.is
                    refine WL_q rfl (ev_move rfl) ?_
                    refine WL_m rfl (ev_call rfl (DistancesFrom_spec _ A _ _ hN79 (by omega) (by omega))) ?_
                    rintro _ w81 ⟨a81, c81, y81, q81, rfl, hr81, hO81, hl81, hE81⟩
                    have hz81 := hE81.size
                    replace hE := hE.trans hE81
                    replace hA := hA.ext hE81
                    replace hB2 := hB2.ext hE81
                    replace hF23 := hF23.ext hE81
                    replace hN23 := hN23.ext hE81
                    replace hx25 := hx25.ext hE81
                    replace hB8 := hB8.ext hE81
                    replace hO33 := hO33.ext hE81
                    replace hF47 := hF47.ext hE81
                    replace hN47 := hN47.ext hE81
                    replace hF79 := hF79.ext hE81
                    replace hN79 := hN79.ext hE81
                    refine WL_q rfl (ev_move rfl) ?_
                    refine WL_q rfl (ev_extract rfl rfl) ?_
                    refine WL_q rfl (ev_extract rfl rfl) ?_
                    refine WL_q rfl (ev_assign rfl) ?_
                    refine WL_q rfl (ev_assign rfl) ?_
                    refine WL_nil ?_
                    refine thenE_n ?_
                    refine W_seq ?_
                    refine W_seq ?_
                    refine W_region ?_
                    refine WL_q rfl (ev_move rfl) ?_
                    refine WL_q rfl (ev_move rfl) ?_
                    refine WL_m rfl (ev_call rfl (eqIntS_spec _ _ _ _ y81 y25 _ (ownt_i hO81) hx25 (by omega))) ?_
                    rintro _ w86 ⟨rfl, hE86⟩
                    have hz86 := hE86.size
                    replace hE := hE.trans hE86
                    replace hA := hA.ext hE86
                    replace hB2 := hB2.ext hE86
                    replace hF23 := hF23.ext hE86
                    replace hN23 := hN23.ext hE86
                    replace hx25 := hx25.ext hE86
                    replace hB8 := hB8.ext hE86
                    replace hO33 := hO33.ext hE86
                    replace hF47 := hF47.ext hE86
                    replace hN47 := hN47.ext hE86
                    replace hF79 := hF79.ext hE86
                    replace hN79 := hN79.ext hE86
                    replace hO81 := hO81.ext hE86
                    refine WL_q rfl (ev_not rfl) ?_
                    refine WL_q rfl (ev_move rfl) ?_
                    refine WL_splitv (t := 88) rfl (fun hg87 => ?_) (fun hg87 => ?_)
                    · have hg86 := not_true hg87
                      refine WL_no rfl rfl hg87 rfl ?_
                      refine WL_no rfl rfl hg87 rfl ?_
                      refine WL_no rfl rfl hg87 rfl ?_
                      refine WL_q rfl (ev_pick_t rfl hg87 rfl) ?_
                      refine WL_nil ?_
                      refine thenE_n ?_
                      refine W_cond_t rfl ?_
                      refine W_seq ?_
                      refine W_region ?_
                      refine WL_q rfl (ev_assign rfl) ?_
                      refine WL_nil ?_
                      refine thenE_n ?_
                      refine W_ret ?_
                      refine thenE_r ?_
                      refine ret1 rfl rfl ?_
                      first | (exact ⟨rfl, hE⟩) | (exact (bneE hg86 (hr81.det1 hr25)).elim) | (exact absurd (hr81.det1 hr25) hp86) | (exact absurd (hr81.det1 hr25) (of_decide_eq_false hg86)) | (exact (bneE hg86 (hr81.det2 hr25)).elim) | (exact absurd (hr81.det2 hr25) hp86) | (exact absurd (hr81.det2 hr25) (of_decide_eq_false hg86)) | (exact (bneE hg86 (hr81.det3 hr25)).elim) | (exact absurd (hr81.det3 hr25) hp86) | (exact absurd (hr81.det3 hr25) (of_decide_eq_false hg86)) | (exact (bneE hg86 (hr33.det1 hr25)).elim) | (exact absurd (hr33.det1 hr25) hp86) | (exact absurd (hr33.det1 hr25) (of_decide_eq_false hg86)) | (exact (bneE hg86 (hr33.det2 hr25)).elim) | (exact absurd (hr33.det2 hr25) hp86) | (exact absurd (hr33.det2 hr25) (of_decide_eq_false hg86)) | (exact (bneE hg86 (hr33.det3 hr25)).elim) | (exact absurd (hr33.det3 hr25) hp86) | (exact absurd (hr33.det3 hr25) (of_decide_eq_false hg86)) | (exact (tfX hg86).elim) | (exact (decF hg86).elim) | (exfalso; omega)
                    · have hg86 := not_false hg87
                      refine WL_qg rfl rfl hg87 rfl (ev_move rfl) ?_
                      refine WL_qg rfl rfl hg87 rfl (ev_move rfl) ?_
                      refine WL_qg rfl rfl hg87 rfl (ev_neq_b Try.underlying4 rfl rfl) ?_
                      refine WL_q rfl (ev_pick_f rfl hg87 rfl) ?_
                      refine WL_nil ?_
                      refine thenE_n ?_
                      refine W_cond rfl (fun hg91 => ?_) (fun hg91 => ?_)
                      · refine W_seq ?_
                        refine W_region ?_
                        refine WL_q rfl (ev_assign rfl) ?_
                        refine WL_nil ?_
                        refine thenE_n ?_
                        refine W_ret ?_
                        refine thenE_r ?_
                        refine ret1 rfl rfl ?_
                        first | (exact ⟨rfl, hE⟩) | (exact (bneE hg91 (hr81.det1 hr25)).elim) | (exact absurd (hr81.det1 hr25) hp91) | (exact absurd (hr81.det1 hr25) (of_decide_eq_false hg91)) | (exact (bneE hg91 (hr81.det2 hr25)).elim) | (exact absurd (hr81.det2 hr25) hp91) | (exact absurd (hr81.det2 hr25) (of_decide_eq_false hg91)) | (exact (bneE hg91 (hr81.det3 hr25)).elim) | (exact absurd (hr81.det3 hr25) hp91) | (exact absurd (hr81.det3 hr25) (of_decide_eq_false hg91)) | (exact (bneE hg91 (hr33.det1 hr25)).elim) | (exact absurd (hr33.det1 hr25) hp91) | (exact absurd (hr33.det1 hr25) (of_decide_eq_false hg91)) | (exact (bneE hg91 (hr33.det2 hr25)).elim) | (exact absurd (hr33.det2 hr25) hp91) | (exact absurd (hr33.det2 hr25) (of_decide_eq_false hg91)) | (exact (bneE hg91 (hr33.det3 hr25)).elim) | (exact absurd (hr33.det3 hr25) hp91) | (exact absurd (hr33.det3 hr25) (of_decide_eq_false hg91)) | (exact (tfX hg91).elim) | (exact (decF hg91).elim) | (exfalso; omega)
                      · refine W_skip ?_
                        refine thenE_n ?_
                        refine W_seq ?_
                        refine W_region ?_
                        refine WL_q rfl (ev_assign rfl) ?_
                        refine WL_nil ?_
                        refine thenE_n ?_
                        refine W_seq ?_
                        refine W_region ?_
                        refine WL_q rfl (ev_move rfl) ?_
                        refine WL_q rfl (ev_move rfl) ?_
                        refine WL_m rfl (ev_call rfl (heldIntS_spec _ _ (nums 1 y33.length) _ _ (Ints.of_own (nums_len _ _) hO33.1) rfl (by omega) (by omega))) ?_
                        rintro _ w95 ⟨rfl, hE95⟩
                        have hz95 := hE95.size
                        replace hE := hE.trans hE95
                        replace hA := hA.ext hE95
                        replace hB2 := hB2.ext hE95
                        replace hF23 := hF23.ext hE95
                        replace hN23 := hN23.ext hE95
                        replace hx25 := hx25.ext hE95
                        replace hB8 := hB8.ext hE95
                        replace hO33 := hO33.ext hE95
                        replace hF47 := hF47.ext hE95
                        replace hN47 := hN47.ext hE95
                        replace hF79 := hF79.ext hE95
                        replace hN79 := hN79.ext hE95
                        replace hO81 := hO81.ext hE95
                        refine WL_q rfl (ev_assign rfl) ?_
                        refine WL_nil ?_
                        refine thenE_n ?_
                        refine W_seq ?_
                        refine W_seq ?_
                        refine W_region ?_
                        refine WL_q rfl (ev_move rfl) ?_
                        refine WL_q rfl (ev_lss rfl rfl) ?_
                        refine WL_nil ?_
                        refine thenE_n ?_
                        refine W_cond rfl (fun hg97 => ?_) (fun hg97 => ?_)
                        · have hp97 := of_decide_eq_true hg97
                          refine W_seq ?_
                          refine W_region ?_
                          refine WL_q rfl (ev_assign rfl) ?_
                          refine WL_nil ?_
                          refine thenE_n ?_
                          refine W_ret ?_
                          refine thenE_r ?_
                          refine ret1 rfl rfl ?_
                          first | (exact ⟨rfl, hE⟩) | (exact (bneE hg97 (hr81.det1 hr25)).elim) | (exact absurd (hr81.det1 hr25) hp97) | (exact absurd (hr81.det1 hr25) (of_decide_eq_false hg97)) | (exact (bneE hg97 (hr81.det2 hr25)).elim) | (exact absurd (hr81.det2 hr25) hp97) | (exact absurd (hr81.det2 hr25) (of_decide_eq_false hg97)) | (exact (bneE hg97 (hr81.det3 hr25)).elim) | (exact absurd (hr81.det3 hr25) hp97) | (exact absurd (hr81.det3 hr25) (of_decide_eq_false hg97)) | (exact (bneE hg97 (hr33.det1 hr25)).elim) | (exact absurd (hr33.det1 hr25) hp97) | (exact absurd (hr33.det1 hr25) (of_decide_eq_false hg97)) | (exact (bneE hg97 (hr33.det2 hr25)).elim) | (exact absurd (hr33.det2 hr25) hp97) | (exact absurd (hr33.det2 hr25) (of_decide_eq_false hg97)) | (exact (bneE hg97 (hr33.det3 hr25)).elim) | (exact absurd (hr33.det3 hr25) hp97) | (exact absurd (hr33.det3 hr25) (of_decide_eq_false hg97)) | (exact (tfX hg97).elim) | (exact (decF hg97).elim) | (exfalso; omega)
                        · have hp97 := of_decide_eq_false hg97
                          refine W_skip ?_
                          refine thenE_n ?_
                          refine W_seq ?_
                          refine W_seq ?_
                          refine W_region ?_
                          refine WL_q rfl (ev_move rfl) ?_
                          refine WL_q rfl (ev_move rfl) ?_
                          refine WL_q rfl (ev_neq rfl rfl) ?_
                          refine WL_nil ?_
                          refine thenE_n ?_
                          refine W_cond rfl (fun hg100 => ?_) (fun hg100 => ?_)
                          · have hp100 := of_decide_eq_true hg100
                            refine W_seq ?_
                            refine W_region ?_
                            refine WL_q rfl (ev_assign rfl) ?_
                            refine WL_nil ?_
                            refine thenE_n ?_
                            refine W_ret ?_
                            refine thenE_r ?_
                            refine ret1 rfl rfl ?_
                            first | (exact ⟨rfl, hE⟩) | (exact (bneE hg100 (hr81.det1 hr25)).elim) | (exact absurd (hr81.det1 hr25) hp100) | (exact absurd (hr81.det1 hr25) (of_decide_eq_false hg100)) | (exact (bneE hg100 (hr81.det2 hr25)).elim) | (exact absurd (hr81.det2 hr25) hp100) | (exact absurd (hr81.det2 hr25) (of_decide_eq_false hg100)) | (exact (bneE hg100 (hr81.det3 hr25)).elim) | (exact absurd (hr81.det3 hr25) hp100) | (exact absurd (hr81.det3 hr25) (of_decide_eq_false hg100)) | (exact (bneE hg100 (hr33.det1 hr25)).elim) | (exact absurd (hr33.det1 hr25) hp100) | (exact absurd (hr33.det1 hr25) (of_decide_eq_false hg100)) | (exact (bneE hg100 (hr33.det2 hr25)).elim) | (exact absurd (hr33.det2 hr25) hp100) | (exact absurd (hr33.det2 hr25) (of_decide_eq_false hg100)) | (exact (bneE hg100 (hr33.det3 hr25)).elim) | (exact absurd (hr33.det3 hr25) hp100) | (exact absurd (hr33.det3 hr25) (of_decide_eq_false hg100)) | (exact (tfX hg100).elim) | (exact (decF hg100).elim) | (exfalso; omega)
                          · have hp100 := of_decide_eq_false hg100
                            refine W_skip ?_
                            refine thenE_n ?_
                            refine W_seq ?_
                            refine W_region ?_
                            refine WL_q rfl (ev_assign rfl) ?_
                            refine WL_nil ?_
                            refine thenE_n ?_
                            refine W_ret ?_
                            refine ret1 rfl rfl ?_
                            first | (exact ⟨rfl, hE⟩) | (exact (bneE hg100 (hr81.det1 hr25)).elim) | (exact absurd (hr81.det1 hr25) hp100) | (exact absurd (hr81.det1 hr25) (of_decide_eq_false hg100)) | (exact (bneE hg100 (hr81.det2 hr25)).elim) | (exact absurd (hr81.det2 hr25) hp100) | (exact absurd (hr81.det2 hr25) (of_decide_eq_false hg100)) | (exact (bneE hg100 (hr81.det3 hr25)).elim) | (exact absurd (hr81.det3 hr25) hp100) | (exact absurd (hr81.det3 hr25) (of_decide_eq_false hg100)) | (exact (bneE hg100 (hr33.det1 hr25)).elim) | (exact absurd (hr33.det1 hr25) hp100) | (exact absurd (hr33.det1 hr25) (of_decide_eq_false hg100)) | (exact (bneE hg100 (hr33.det2 hr25)).elim) | (exact absurd (hr33.det2 hr25) hp100) | (exact absurd (hr33.det2 hr25) (of_decide_eq_false hg100)) | (exact (bneE hg100 (hr33.det3 hr25)).elim) | (exact absurd (hr33.det3 hr25) hp100) | (exact absurd (hr33.det3 hr25) (of_decide_eq_false hg100)) | (exact (tfX hg100).elim) | (exact (decF hg100).elim) | (exfalso; omega)

set_option maxRecDepth 100000 in
theorem meBall_spec {loA hiA : Nat} (nA : NA) (A : Net) (v : Int) (r : Int) (w : World) (hA : IsNet loA hiA w nA A) (hhiA : hiA ≤ w.heap.size) (hnA : totN A ≤ 1048576) (hk : EndsOk A.ends) (hv : 0 ≤ v ∧ v.toNat < A.ends.length) :
    Fn Try.prog 61 #[netV nA A, VI v, VI r] w (fun o9 w' => ∃ a' c', o9 = .slice a' (ballN (bfs A.ends v) 0 r A.ends.length).length c' ∧ Own w.heap.size w' 3 1 a' (ballN (bfs A.ends v) 0 r A.ends.length).length c' ((ballN (bfs A.ends v) 0 r A.ends.length).map VI) ∧ Ext w w') := by
  have hqA := totL_len A.ends
  have hmA : totL A.ends + A.ids.length + A.inputs.length ≤ 1048576 := hnA
  have hv1 := hv.1
  have hv2 := hv.2
  have hl0 := bfs_len hk hv1 hv2
  have hE := Ext.refl w
  refine Fn_of Try.func61 rfl rfl (by kernel_rfl) rfl ?_
  refine W_seq ?_
  refine W_region ?_
  refine WL_m rfl (ev_box rfl) ?_
  rintro _ w3 ⟨rfl, hN3⟩
  have hz3 := hN3.size
  replace hE := hE.trans hN3.ext
  replace hA := hA.ext hN3.ext
  have hB3 : Blk w3 _ _ [_, _, _] := hN3.blk
  refine WL_q rfl (ev_assign rfl) ?_
  refine WL_nil ?_
  refine thenE_n ?_
  refine W_seq ?_
  refine W_region ?_
  refine WL_q rfl (ev_assign rfl) ?_
  refine WL_nil ?_
  refine thenE_n ?_
  refine W_seq ?_
  refine W_seq ?_
  refine W_region ?_
  refine WL_q rfl (ev_loads st31 sz31 rfl (cellsB hB3) rfl) ?_
  refine WL_q rfl (ev_move rfl) ?_
  refine WL_m rfl (ev_call rfl (meFrom_spec _ A _ _ hA (by omega) (by omega) (by assumption) (by omega))) ?_
  rintro _ w12 ⟨a12, c12, rfl, hO12, hE12⟩
  have hz12 := hE12.size
  replace hE := hE.trans hE12
  replace hA := hA.ext hE12
  replace hB3 := hB3.ext hE12
  have hI12 := own_i hO12
  refine WL_q rfl (ev_len Try.underlying23 rfl) ?_
  refine WL_q rfl (ev_move rfl) ?_
  refine WL_nil ?_
  refine thenE_n ?_
  refine W_block ?_
  refine W_loopC (G := Nat × Option Addr × Nat) [(2, _), (12, _), (13, _)] ((Subs.c rfl (Subs.c rfl (Subs.c rfl Subs.n)))) (fun ⟨i, a, c⟩ => [(7, .slice a (ballN (bfs A.ends v) 0 r i).length c), (14, VI (i : Int))]) (fun ⟨i, a, c⟩ w' => Ext w12 w' ∧ i ≤ A.ends.length ∧ OwnH w12.heap.size w'.heap.size 0 0 w' 3 1 a (ballN (bfs A.ends v) 0 r i).length c ((ballN (bfs A.ends v) 0 r i).map VI)) (fun g => A.ends.length - g.1) (0, none, 0) ((Subs.c rfl (Subs.c (lkI rfl (by omega)) Subs.n))) (⟨Ext.refl _, ⟨Nat.zero_le _, OwnH.nil⟩⟩) ?_
  rintro ⟨i, a, c⟩ wL0 ⟨hRL0, hi', hO⟩
  have hzL0 := hRL0.size
  replace hE := hE.trans hRL0
  replace hA := hA.ext hRL0
  replace hB3 := hB3.ext hRL0
  replace hI12 := hI12.ext hRL0
  refine W_seq ?_
  refine W_region ?_
  refine WL_q rfl (ev_lss rfl rfl) ?_
  refine WL_nil ?_
  refine thenE_n ?_
  refine W_seq ?_
  refine W_cond rfl (fun hg15 => ?_) (fun hg15 => ?_)
  · have hp15 := of_decide_eq_true hg15
    refine W_skip ?_
    refine thenE_n ?_
    refine W_seq ?_
    refine W_block ?_
    refine W_seq ?_
    refine W_region ?_
    refine WL_q rfl (ev_move rfl) ?_
    have hlt : i < (bfs A.ends v).length := by omega
    have hbn := ballN_len (bfs A.ends v) 0 r i
    refine WL_q rfl (ev_indexAddr Try.underlying23 sz3 rfl rfl (hI12.isSome (by omega)) (by omega) (by omega)) ?_
    refine WL_q rfl (ev_load one3 rfl (hI12.cell (i := i) (by omega))) ?_
    refine WL_q rfl (ev_assign rfl) ?_
    refine WL_q rfl (ev_assign rfl) ?_
    refine WL_nil ?_
    refine thenE_n ?_
    refine W_seq ?_
    refine W_region ?_
    refine WL_q rfl (ev_move rfl) ?_
    refine WL_q rfl (ev_move rfl) ?_
    refine WL_m rfl (ev_call rfl (l1In_spec _ _ _ _)) ?_
    rintro _ _ ⟨rfl, rfl⟩
    refine WL_nil ?_
    refine thenE_n ?_
    refine W_cond rfl (fun hg21 => ?_) (fun hg21 => ?_)
    · have hp21 := inR_true.1 hg21
      refine W_region ?_
      refine WL_q rfl (ev_move rfl) ?_
      refine WL_q rfl (ev_move rfl) ?_
      refine WL_m rfl (ev_lit1 Try.underlying23 el3 (by decide) (by decide) rfl rfl) ?_
      rintro _ w24 ⟨rfl, hN24⟩
      have hz24 := hN24.size
      replace hE := hE.trans hN24.ext
      replace hRL0 := hRL0.trans hN24.ext
      replace hA := hA.ext hN24.ext
      replace hB3 := hB3.ext hN24.ext
      replace hI12 := hI12.ext hN24.ext
      replace hO := hO.ext hN24.ext
      have hB24 := hN24.blk
      refine WL_m rfl (ev_appendT Try.underlying23 el3 rfl (by decide) rfl rfl hO (SAt.of_blk (cs := [_]) (ds := []) hB24) rfl (by simp [Value.oneCell']) (by omega) (by unfold maxLen; omega) (by omega)) ?_
      rintro _ w25 ⟨a25, c25, rfl, hO25, hK25, hQ25⟩
      have hz25 := hK25.size
      replace hE := hE.rg hK25 (by omega)
      replace hRL0 := hRL0.rg hK25 (by omega)
      replace hA := hA.rg hK25 (by omega)
      replace hB3 := hB3.rg hK25 (by omega)
      replace hI12 := hI12.rg hK25 (by omega)
      replace hB24 := hB24.rg hK25 (by omega)
      replace hO := hO25
      replace hO := ownt_snocI hO
      refine WL_q rfl (ev_assign rfl) ?_
      refine WL_nil ?_
      refine blockE_n ?_
      refine thenE_n ?_
      refine W_region ?_
      refine WL_q rfl (ev_add rfl rfl (by omega)) ?_
      refine WL_q rfl (ev_move rfl) ?_
      refine WL_nil ?_
      refine thenE_n ?_
      have hyes := ballN_yes hlt hg21
      exact ⟨(i + 1, a25, c25), (Subs.c rfl (Subs.c rfl (Subs.c rfl Subs.n))), (Subs.c (lkS rfl (by rw [← hyes]; simp)) (Subs.c (lkI rfl (by omega)) Subs.n)), ⟨hRL0, ⟨by omega, (ownt_to hO hyes (by rw [← hyes]; simp)).up (Nat.le_refl _) (by omega)⟩⟩, by first | omega | (dsimp only; omega)⟩
    · have hp21 := inR_false.1 hg21
      refine W_skip ?_
      refine blockE_n ?_
      refine thenE_n ?_
      refine W_region ?_
      refine WL_q rfl (ev_add rfl rfl (by omega)) ?_
      refine WL_q rfl (ev_move rfl) ?_
      refine WL_nil ?_
      refine thenE_n ?_
      have hno := ballN_no hlt hg21
      exact ⟨(i + 1, a, c), (Subs.c rfl (Subs.c rfl (Subs.c rfl Subs.n))), (Subs.c (lkS rfl (by rw [← hno])) (Subs.c (lkI rfl (by omega)) Subs.n)), ⟨hRL0, ⟨by omega, (ownt_to hO hno (by rw [← hno])).up (Nat.le_refl _) (by omega)⟩⟩, by first | omega | (dsimp only; omega)⟩
  · have hp15 := of_decide_eq_false hg15
    refine W_exit ?_
    refine thenE_x ?_
    refine thenE_x ?_
    refine blockE_hit ?_
    refine thenE_n ?_
    refine W_seq ?_
    refine W_region ?_
    refine WL_q rfl (ev_move rfl) ?_
    refine WL_q rfl (ev_assign rfl) ?_
    refine WL_nil ?_
    refine thenE_n ?_
    refine W_ret ?_
    refine ret1 rfl rfl ?_
    have hi9 : i = A.ends.length := by omega
    subst hi9
    exact ⟨_, _, rfl, hO.1.mono (by omega), hE⟩

set_option maxRecDepth 100000 in
theorem sBallOf_spec {loA hiA : Nat} (nA : NA) (A : Net) (v : Int) (r : Int) (w : World) (hA : IsNet loA hiA w nA A) (hhiA : hiA ≤ w.heap.size) (hnA : totN A ≤ 1048576) :
    Fn Try.prog 24 #[netV nA A, VI v, VI r] w (fun o9 w' => ∃ a' c' ys q, o9 = .tuple #[.slice a' ys.length c', VB q] ∧ RV [] (opt (NN A v ∧ inR r 0 40 = true) (ballN (bfs A.ends v) 0 r A.ends.length)) ys q ∧ Ints 0 w'.heap.size w' a' c' ys ∧ ys.length ≤ 1048576 ∧ Ext w w') := by
  have hqA := totL_len A.ends
  have hmA : totL A.ends + A.ids.length + A.inputs.length ≤ 1048576 := hnA
  have hE := Ext.refl w
  refine Fn_of Try.func24 rfl rfl (by kernel_rfl) rfl ?_
  refine W_seq ?_
  refine W_region ?_
  refine WL_m rfl (ev_box rfl) ?_
  rintro _ w3 ⟨rfl, hN3⟩
  have hz3 := hN3.size
  replace hE := hE.trans hN3.ext
  replace hA := hA.ext hN3.ext
  have hB3 : Blk w3 _ _ [_, _, _] := hN3.blk
  refine WL_q rfl (ev_assign rfl) ?_
  refine WL_q rfl (ev_assign rfl) ?_
  refine WL_nil ?_
  refine thenE_n ?_
  refine W_seq ?_
  refine W_seq ?_
  refine W_region ?_
  refine WL_q rfl (ev_loads st31 sz31 rfl (cellsB hB3) rfl) ?_
  refine WL_q rfl (ev_move rfl) ?_
  refine WL_m rfl (ev_call rfl (neNode_spec _ A _ _ hA (by omega) (by omega))) ?_
  rintro _ w10 ⟨b10, rfl, hb10, hE10⟩
  have hz10 := hE10.size
  replace hE := hE.trans hE10
  replace hA := hA.ext hE10
  replace hB3 := hB3.ext hE10
  refine WL_q rfl (ev_not rfl) ?_
  refine WL_q rfl (ev_move rfl) ?_
  refine WL_splitv (t := 12) rfl (fun hg11 => ?_) (fun hg11 => ?_)
  · have hg10 := not_true hg11
    have hp10 := ttN hb10 hg10
    refine WL_no rfl rfl hg11 rfl ?_
    refine WL_no rfl rfl hg11 rfl ?_
    refine WL_no rfl rfl hg11 rfl ?_
    refine WL_q rfl (ev_pick_t rfl hg11 rfl) ?_
    refine WL_nil ?_
    refine thenE_n ?_
    refine W_cond_t rfl ?_
    refine W_seq ?_
    refine W_region ?_
    refine WL_q rfl (ev_assign rfl) ?_
    refine WL_q rfl (ev_assign rfl) ?_
    refine WL_nil ?_
    refine thenE_n ?_
    refine W_ret ?_
    refine thenE_r ?_
    refine ret2 rfl rfl rfl ?_
    first | (exact ⟨none, 0, [], _, rfl, .no (fun h => hp10 h.1), Ints.nil, by simp, hE⟩) | (exact ⟨none, 0, [], _, rfl, .no (fun h => tf hg14 h.2), Ints.nil, by simp, hE⟩) | (exact ⟨a20, c20, (ballN (bfs A.ends v) 0 r A.ends.length), true, by rw [← (rfl : (ballN (bfs A.ends v) 0 r A.ends.length).length = (ballN (bfs A.ends v) 0 r A.ends.length).length)], .yes ⟨hp10, hg14⟩ rfl, (own_i (own_to hO20 rfl (rfl : (ballN (bfs A.ends v) 0 r A.ends.length).length = (ballN (bfs A.ends v) 0 r A.ends.length).length))).mono (Nat.zero_le _) (Nat.le_refl _), by omega, hE⟩)
  · have hg10 := not_false hg11
    have hp10 := hb10.1 hg10
    refine WL_qg rfl rfl hg11 rfl (ev_move rfl) ?_
    refine WL_mg rfl rfl hg11 rfl (ev_call rfl (l1In_spec _ _ _ _)) ?_
    rintro _ _ ⟨rfl, rfl⟩
    refine WL_qg rfl rfl hg11 rfl (ev_not rfl) ?_
    refine WL_q rfl (ev_pick_f rfl hg11 rfl) ?_
    refine WL_nil ?_
    refine thenE_n ?_
    refine W_cond rfl (fun hg15 => ?_) (fun hg15 => ?_)
    · have hg14 := not_true hg15
      have hp14 := inR_false.1 hg14
      refine W_seq ?_
      refine W_region ?_
      refine WL_q rfl (ev_assign rfl) ?_
      refine WL_q rfl (ev_assign rfl) ?_
      refine WL_nil ?_
      refine thenE_n ?_
      refine W_ret ?_
      refine thenE_r ?_
      refine ret2 rfl rfl rfl ?_
      first | (exact ⟨none, 0, [], _, rfl, .no (fun h => hp10 h.1), Ints.nil, by simp, hE⟩) | (exact ⟨none, 0, [], _, rfl, .no (fun h => tf hg14 h.2), Ints.nil, by simp, hE⟩) | (exact ⟨a20, c20, (ballN (bfs A.ends v) 0 r A.ends.length), true, by rw [← (rfl : (ballN (bfs A.ends v) 0 r A.ends.length).length = (ballN (bfs A.ends v) 0 r A.ends.length).length)], .yes ⟨hp10, hg14⟩ rfl, (own_i (own_to hO20 rfl (rfl : (ballN (bfs A.ends v) 0 r A.ends.length).length = (ballN (bfs A.ends v) 0 r A.ends.length).length))).mono (Nat.zero_le _) (Nat.le_refl _), by omega, hE⟩)
    · have hg14 := not_false hg15
      have hp14 := inR_true.1 hg14
      refine W_skip ?_
      refine thenE_n ?_
      refine W_seq ?_
      refine W_region ?_
      refine WL_q rfl (ev_loads st31 sz31 rfl (cellsB hB3) rfl) ?_
      refine WL_q rfl (ev_move rfl) ?_
      refine WL_q rfl (ev_move rfl) ?_
      have hk := hp10.1.endsOk
      have hv1 := hp10.2.1
      have hv2 := hp10.2.2
      have hl0 := bfs_len hk hv1 hv2
      have hnd := hp10.1.nodes
      have hbn := ballN_len (bfs A.ends v) 0 r A.ends.length
      refine WL_m rfl (ev_call rfl (meBall_spec _ A _ _ _ hA (by omega) (by omega) (by assumption) (by omega))) ?_
      rintro _ w20 ⟨a20, c20, rfl, hO20, hE20⟩
      have hz20 := hE20.size
      replace hE := hE.trans hE20
      replace hA := hA.ext hE20
      replace hB3 := hB3.ext hE20
      refine WL_q rfl (ev_assign rfl) ?_
      refine WL_q rfl (ev_assign rfl) ?_
      refine WL_nil ?_
      refine thenE_n ?_
      refine W_ret ?_
      refine ret2 rfl rfl rfl ?_
      first | (exact ⟨none, 0, [], _, rfl, .no (fun h => hp10 h.1), Ints.nil, by simp, hE⟩) | (exact ⟨none, 0, [], _, rfl, .no (fun h => tf hg14 h.2), Ints.nil, by simp, hE⟩) | (exact ⟨a20, c20, (ballN (bfs A.ends v) 0 r A.ends.length), true, by rw [← (rfl : (ballN (bfs A.ends v) 0 r A.ends.length).length = (ballN (bfs A.ends v) 0 r A.ends.length).length)], .yes ⟨hp10, hg14⟩ rfl, (own_i (own_to hO20 rfl (rfl : (ballN (bfs A.ends v) 0 r A.ends.length).length = (ballN (bfs A.ends v) 0 r A.ends.length).length))).mono (Nat.zero_le _) (Nat.le_refl _), by omega, hE⟩)

set_option maxRecDepth 100000 in
theorem BallOf_spec {loA hiA : Nat} (nA : NA) (A : Net) (v : Int) (r : Int) (w : World) (hA : IsNet loA hiA w nA A) (hhiA : hiA ≤ w.heap.size) (hnA : totN A ≤ 1048576) :
    Fn Try.prog 25 #[netV nA A, VI v, VI r] w (fun o9 w' => ∃ a' c' ys q, o9 = .tuple #[.slice a' ys.length c', VB q] ∧ RV [] (opt (NN A v ∧ inR r 0 40 = true) (ballN (bfs A.ends v) 0 r A.ends.length)) ys q ∧ OwnH w.heap.size w'.heap.size 0 0 w' 3 1 a' ys.length c' (ys.map VI) ∧ ys.length ≤ 1048576 ∧ Ext w w') := by
  have hqA := totL_len A.ends
  have hmA : totL A.ends + A.ids.length + A.inputs.length ≤ 1048576 := hnA
  have hE := Ext.refl w
  refine Fn_of Try.func25 rfl rfl (by kernel_rfl) rfl ?_
  refine W_seq ?_
  refine W_region ?_
  refine WL_m rfl (ev_box rfl) ?_
  rintro _ w3 ⟨rfl, hN3⟩
  have hz3 := hN3.size
  replace hE := hE.trans hN3.ext
  replace hA := hA.ext hN3.ext
  have hB3 : Blk w3 _ _ [_, _, _] := hN3.blk
  refine WL_q rfl (ev_assign rfl) ?_
  refine WL_q rfl (ev_assign rfl) ?_
  refine WL_nil ?_
  refine thenE_n ?_
  refine W_seq ?_
  refine W_seq ?_
  refine W_region ?_
  refine WL_q rfl (ev_loads st31 sz31 rfl (cellsB hB3) rfl) ?_
  refine WL_m rfl (ev_call rfl (IsNetwork_spec _ A _ hA (by omega) (by omega))) ?_
  rintro _ w12 ⟨b12, rfl, hb12, hE12⟩
  have hz12 := hE12.size
  replace hE := hE.trans hE12
  replace hA := hA.ext hE12
  replace hB3 := hB3.ext hE12
  refine WL_q rfl (ev_not rfl) ?_
  refine WL_q rfl (ev_move rfl) ?_
  refine WL_splitv (t := 14) rfl (fun hg13 => ?_) (fun hg13 => ?_)
  · have hg12 := not_true hg13
    have hp12 := ttN hb12 hg12
    refine WL_no rfl rfl hg13 rfl ?_
    refine WL_no rfl rfl hg13 rfl ?_
    refine WL_no rfl rfl hg13 rfl ?_
    refine WL_no rfl rfl hg13 rfl ?_
    refine WL_q rfl (ev_pick_t rfl hg13 rfl) ?_
    refine WL_q rfl (ev_move rfl) ?_
    refine WL_no rfl rfl rfl rfl ?_
    refine WL_no rfl rfl rfl rfl ?_
    refine WL_no rfl rfl rfl rfl ?_
    refine WL_q rfl (ev_pick_t rfl rfl rfl) ?_
    refine WL_nil ?_
    refine thenE_n ?_
    refine W_cond_t rfl ?_
    refine W_seq ?_
    refine W_region ?_
    refine WL_q rfl (ev_assign rfl) ?_
    refine WL_q rfl (ev_assign rfl) ?_
    refine WL_nil ?_
    refine thenE_n ?_
    refine W_ret ?_
    refine thenE_r ?_
    refine ret2 rfl rfl rfl ?_
    first | (exact ⟨none, 0, [], _, rfl, .no (fun h => hp12 h.1.1), OwnH.nil, by simp, hE⟩) | (exact ⟨none, 0, [], _, rfl, .no (fun h => hp17 h.1.2), OwnH.nil, by simp, hE⟩) | (exact ⟨none, 0, [], _, rfl, .no (fun h => tf hg22 h.2), OwnH.nil, by simp, hE⟩) | (have hi9 : i = A.ends.length := (by omega); subst hi9; have hbn := ballN_len (bfs A.ends v) 0 r A.ends.length; exact ⟨_, _, _, _, rfl, .yes ⟨⟨hp12, hp17⟩, hg22⟩ rfl, hO.up (by omega) (Nat.le_refl _), by omega, hE⟩)
  · have hg12 := not_false hg13
    have hp12 := hb12.1 hg12
    refine WL_qg rfl rfl hg13 rfl (ev_loads st31 sz31 rfl (cellsB hB3) rfl) ?_
    refine WL_qg rfl rfl hg13 rfl (ev_move rfl) ?_
    refine WL_mg rfl rfl hg13 rfl (ev_call rfl (hasNode_spec _ A _ _ (by omega))) ?_
    rintro _ w17 ⟨b17, rfl, hb17, hE17⟩
    have hz17 := hE17.size
    replace hE := hE.trans hE17
    replace hA := hA.ext hE17
    replace hB3 := hB3.ext hE17
    refine WL_qg rfl rfl hg13 rfl (ev_not rfl) ?_
    refine WL_q rfl (ev_pick_f rfl hg13 rfl) ?_
    refine WL_q rfl (ev_move rfl) ?_
    refine WL_splitv (t := 20) rfl (fun hg18 => ?_) (fun hg18 => ?_)
    · have hg17 := not_true hg18
      have hp17 := ttN hb17 hg17
      refine WL_no rfl rfl hg18 rfl ?_
      refine WL_no rfl rfl hg18 rfl ?_
      refine WL_no rfl rfl hg18 rfl ?_
      refine WL_q rfl (ev_pick_t rfl hg18 rfl) ?_
      refine WL_nil ?_
      refine thenE_n ?_
      refine W_cond_t rfl ?_
      refine W_seq ?_
      refine W_region ?_
      refine WL_q rfl (ev_assign rfl) ?_
      refine WL_q rfl (ev_assign rfl) ?_
      refine WL_nil ?_
      refine thenE_n ?_
      refine W_ret ?_
      refine thenE_r ?_
      refine ret2 rfl rfl rfl ?_
      first | (exact ⟨none, 0, [], _, rfl, .no (fun h => hp12 h.1.1), OwnH.nil, by simp, hE⟩) | (exact ⟨none, 0, [], _, rfl, .no (fun h => hp17 h.1.2), OwnH.nil, by simp, hE⟩) | (exact ⟨none, 0, [], _, rfl, .no (fun h => tf hg22 h.2), OwnH.nil, by simp, hE⟩) | (have hi9 : i = A.ends.length := (by omega); subst hi9; have hbn := ballN_len (bfs A.ends v) 0 r A.ends.length; exact ⟨_, _, _, _, rfl, .yes ⟨⟨hp12, hp17⟩, hg22⟩ rfl, hO.up (by omega) (Nat.le_refl _), by omega, hE⟩)
    · have hg17 := not_false hg18
      have hp17 := hb17.1 hg17
      refine WL_qg rfl rfl hg18 rfl (ev_move rfl) ?_
      refine WL_mg rfl rfl hg18 rfl (ev_call rfl (within_spec _ _ _ _)) ?_
      rintro _ _ ⟨rfl, rfl⟩
      refine WL_qg rfl rfl hg18 rfl (ev_not rfl) ?_
      refine WL_q rfl (ev_pick_f rfl hg18 rfl) ?_
      refine WL_nil ?_
      refine thenE_n ?_
      refine W_cond rfl (fun hg23 => ?_) (fun hg23 => ?_)
      · have hg22 := not_true hg23
        have hp22 := inR_false.1 hg22
        refine W_seq ?_
        refine W_region ?_
        refine WL_q rfl (ev_assign rfl) ?_
        refine WL_q rfl (ev_assign rfl) ?_
        refine WL_nil ?_
        refine thenE_n ?_
        refine W_ret ?_
        refine thenE_r ?_
        refine ret2 rfl rfl rfl ?_
        first | (exact ⟨none, 0, [], _, rfl, .no (fun h => hp12 h.1.1), OwnH.nil, by simp, hE⟩) | (exact ⟨none, 0, [], _, rfl, .no (fun h => hp17 h.1.2), OwnH.nil, by simp, hE⟩) | (exact ⟨none, 0, [], _, rfl, .no (fun h => tf hg22 h.2), OwnH.nil, by simp, hE⟩) | (have hi9 : i = A.ends.length := (by omega); subst hi9; have hbn := ballN_len (bfs A.ends v) 0 r A.ends.length; exact ⟨_, _, _, _, rfl, .yes ⟨⟨hp12, hp17⟩, hg22⟩ rfl, hO.up (by omega) (Nat.le_refl _), by omega, hE⟩)
      · have hg22 := not_false hg23
        have hp22 := inR_true.1 hg22
        refine W_skip ?_
        refine thenE_n ?_
        refine W_seq ?_
        refine W_region ?_
        refine WL_q rfl (ev_assign rfl) ?_
        refine WL_nil ?_
        refine thenE_n ?_
        refine W_seq ?_
        refine W_seq ?_
        refine W_region ?_
        refine WL_q rfl (ev_loads st31 sz31 rfl (cellsB hB3) rfl) ?_
        refine WL_q rfl (ev_move rfl) ?_
        have hk := hp12.endsOk
        have hv1 := hp17.1
        have hv2 := hp17.2
        have hl0 := bfs_len hk hv1 hv2
        have hnd := hp12.nodes
        refine WL_m rfl (ev_call rfl (dist_spec _ A _ _ hA (by omega) (by omega) (by assumption) (by omega))) ?_
        rintro _ w27 ⟨a27, c27, rfl, hO27, hE27⟩
        have hz27 := hE27.size
        replace hE := hE.trans hE27
        replace hA := hA.ext hE27
        replace hB3 := hB3.ext hE27
        have hI27 := own_i hO27
        refine WL_q rfl (ev_len Try.underlying23 rfl) ?_
        refine WL_q rfl (ev_move rfl) ?_
        refine WL_nil ?_
        refine thenE_n ?_
        refine W_block ?_
        refine W_loopC (G := Nat × Option Addr × Nat) [(2, _), (27, _), (28, _)] ((Subs.c rfl (Subs.c rfl (Subs.c rfl Subs.n)))) (fun ⟨i, a, c⟩ => [(8, .slice a (ballN (bfs A.ends v) 0 r i).length c), (29, VI (i : Int))]) (fun ⟨i, a, c⟩ w' => Ext w27 w' ∧ i ≤ A.ends.length ∧ OwnH w27.heap.size w'.heap.size 0 0 w' 3 1 a (ballN (bfs A.ends v) 0 r i).length c ((ballN (bfs A.ends v) 0 r i).map VI)) (fun g => A.ends.length - g.1) (0, none, 0) ((Subs.c rfl (Subs.c (lkI rfl (by omega)) Subs.n))) (⟨Ext.refl _, ⟨Nat.zero_le _, OwnH.nil⟩⟩) ?_
        rintro ⟨i, a, c⟩ wL0 ⟨hRL0, hi', hO⟩
        have hzL0 := hRL0.size
        replace hE := hE.trans hRL0
        replace hA := hA.ext hRL0
        replace hB3 := hB3.ext hRL0
        replace hI27 := hI27.ext hRL0
        refine W_seq ?_
        refine W_region ?_
        refine WL_q rfl (ev_lss rfl rfl) ?_
        refine WL_nil ?_
        refine thenE_n ?_
        refine W_seq ?_
        refine W_cond rfl (fun hg30 => ?_) (fun hg30 => ?_)
        · have hp30 := of_decide_eq_true hg30
          refine W_skip ?_
          refine thenE_n ?_
          refine W_seq ?_
          refine W_block ?_
          refine W_seq ?_
          refine W_region ?_
          refine WL_q rfl (ev_move rfl) ?_
          have hlt : i < (bfs A.ends v).length := by omega
          have hbn := ballN_len (bfs A.ends v) 0 r i
          refine WL_q rfl (ev_indexAddr Try.underlying23 sz3 rfl rfl (hI27.isSome (by omega)) (by omega) (by omega)) ?_
          refine WL_q rfl (ev_load one3 rfl (hI27.cell (i := i) (by omega))) ?_
          refine WL_q rfl (ev_assign rfl) ?_
          refine WL_q rfl (ev_assign rfl) ?_
          refine WL_nil ?_
          refine thenE_n ?_
          refine W_seq ?_
          refine W_region ?_
          refine WL_q rfl (ev_move rfl) ?_
          refine WL_q rfl (ev_move rfl) ?_
          refine WL_m rfl (ev_call rfl (within_spec _ _ _ _)) ?_
          rintro _ _ ⟨rfl, rfl⟩
          refine WL_nil ?_
          refine thenE_n ?_
          refine W_cond rfl (fun hg36 => ?_) (fun hg36 => ?_)
          · have hp36 := inR_true.1 hg36
            refine W_region ?_
            refine WL_q rfl (ev_move rfl) ?_
            refine WL_q rfl (ev_move rfl) ?_
            refine WL_m rfl (ev_lit1 Try.underlying23 el3 (by decide) (by decide) rfl rfl) ?_
            rintro _ w39 ⟨rfl, hN39⟩
            have hz39 := hN39.size
            replace hE := hE.trans hN39.ext
            replace hRL0 := hRL0.trans hN39.ext
            replace hA := hA.ext hN39.ext
            replace hB3 := hB3.ext hN39.ext
            replace hI27 := hI27.ext hN39.ext
            replace hO := hO.ext hN39.ext
            have hB39 := hN39.blk
            refine WL_m rfl (ev_appendT Try.underlying23 el3 rfl (by decide) rfl rfl hO (SAt.of_blk (cs := [_]) (ds := []) hB39) rfl (by simp [Value.oneCell']) (by omega) (by unfold maxLen; omega) (by omega)) ?_
            rintro _ w40 ⟨a40, c40, rfl, hO40, hK40, hQ40⟩
            have hz40 := hK40.size
            replace hE := hE.rg hK40 (by omega)
            replace hRL0 := hRL0.rg hK40 (by omega)
            replace hA := hA.rg hK40 (by omega)
            replace hB3 := hB3.rg hK40 (by omega)
            replace hI27 := hI27.rg hK40 (by omega)
            replace hB39 := hB39.rg hK40 (by omega)
            replace hO := hO40
            replace hO := ownt_snocI hO
            refine WL_q rfl (ev_assign rfl) ?_
            refine WL_nil ?_
            refine blockE_n ?_
            refine thenE_n ?_
            refine W_region ?_
            refine WL_q rfl (ev_add rfl rfl (by omega)) ?_
            refine WL_q rfl (ev_move rfl) ?_
            refine WL_nil ?_
            refine thenE_n ?_
            have hyes := ballN_yes hlt hg36
            exact ⟨(i + 1, a40, c40), (Subs.c rfl (Subs.c rfl (Subs.c rfl Subs.n))), (Subs.c (lkS rfl (by rw [← hyes]; simp)) (Subs.c (lkI rfl (by omega)) Subs.n)), ⟨hRL0, ⟨by omega, (ownt_to hO hyes (by rw [← hyes]; simp)).up (Nat.le_refl _) (by omega)⟩⟩, by first | omega | (dsimp only; omega)⟩
          · have hp36 := inR_false.1 hg36
            refine W_skip ?_
            refine blockE_n ?_
            refine thenE_n ?_
            refine W_region ?_
            refine WL_q rfl (ev_add rfl rfl (by omega)) ?_
            refine WL_q rfl (ev_move rfl) ?_
            refine WL_nil ?_
            refine thenE_n ?_
            have hno := ballN_no hlt hg36
            exact ⟨(i + 1, a, c), (Subs.c rfl (Subs.c rfl (Subs.c rfl Subs.n))), (Subs.c (lkS rfl (by rw [← hno])) (Subs.c (lkI rfl (by omega)) Subs.n)), ⟨hRL0, ⟨by omega, (ownt_to hO hno (by rw [← hno])).up (Nat.le_refl _) (by omega)⟩⟩, by first | omega | (dsimp only; omega)⟩
        · have hp30 := of_decide_eq_false hg30
          refine W_exit ?_
          refine thenE_x ?_
          refine thenE_x ?_
          refine blockE_hit ?_
          refine thenE_n ?_
          refine W_seq ?_
          refine W_region ?_
          refine WL_q rfl (ev_move rfl) ?_
          refine WL_q rfl (ev_assign rfl) ?_
          refine WL_q rfl (ev_assign rfl) ?_
          refine WL_nil ?_
          refine thenE_n ?_
          refine W_ret ?_
          refine ret2 rfl rfl rfl ?_
          first | (exact ⟨none, 0, [], _, rfl, .no (fun h => hp12 h.1.1), OwnH.nil, by simp, hE⟩) | (exact ⟨none, 0, [], _, rfl, .no (fun h => hp17 h.1.2), OwnH.nil, by simp, hE⟩) | (exact ⟨none, 0, [], _, rfl, .no (fun h => tf hg22 h.2), OwnH.nil, by simp, hE⟩) | (have hi9 : i = A.ends.length := (by omega); subst hi9; have hbn := ballN_len (bfs A.ends v) 0 r A.ends.length; exact ⟨_, _, _, _, rfl, .yes ⟨⟨hp12, hp17⟩, hg22⟩ rfl, hO.up (by omega) (Nat.le_refl _), by omega, hE⟩)

set_option maxRecDepth 100000 in
theorem law_BallOf (nA : NA) (A : Net) (v : Int) (r : Int) (w : World) (hA : IsNet 0 w.heap.size w nA A) (hsA : SmN A) (hiv : I64 v) (hir : I64 r) :
    Fn Try.prog 4 #[netV nA A, VI v, VI r] w (fun v w' => v = VB true ∧ Ext w w') := by
  have hE := Ext.refl w
  refine Fn_of Try.func4 rfl rfl (by kernel_rfl) rfl ?_
  refine W_seq ?_
  refine W_region ?_
  refine WL_m rfl (ev_box rfl) ?_
  rintro _ w3 ⟨rfl, hN3⟩
  have hz3 := hN3.size
  replace hE := hE.trans hN3.ext
  replace hA := hA.ext hN3.ext
  have hB3 : Blk w3 _ _ [_, _, _] := hN3.blk
  refine WL_q rfl (ev_assign rfl) ?_
  refine WL_nil ?_
  refine thenE_n ?_
  refine W_seq ?_
  refine W_region ?_
  refine WL_q rfl (ev_assign rfl) ?_
  refine WL_nil ?_
  refine thenE_n ?_
  refine W_seq ?_
  refine W_region ?_
  refine WL_q rfl (ev_loads st25 sz25 rfl (cellsB hB3) rfl) ?_
  refine WL_q rfl (ev_move rfl) ?_
  refine WL_m rfl (ev_call rfl (szNetwork_spec _ A _ _ hA (by omega) hsA)) ?_
  rintro _ w20 ⟨r20, rfl, hE20, hr20⟩
  have hz20 := hE20.size
  replace hE := hE.trans hE20
  replace hA := hA.ext hE20
  replace hB3 := hB3.ext hE20
  refine WL_q rfl (ev_assign rfl) ?_
  refine WL_nil ?_
  refine thenE_n ?_
  refine W_seq ?_
  refine W_seq ?_
  refine W_region ?_
  refine WL_q rfl (ev_move rfl) ?_
  refine WL_q rfl (ev_lss rfl rfl) ?_
  refine WL_nil ?_
  refine thenE_n ?_
  refine W_cond rfl (fun hg22 => ?_) (fun hg22 => ?_)
  · have hp22 := of_decide_eq_true hg22
    refine W_seq ?_
    refine W_region ?_
    refine WL_q rfl (ev_assign rfl) ?_
    refine WL_nil ?_
    refine thenE_n ?_
    refine W_ret ?_
    refine thenE_r ?_
    refine ret1 rfl rfl ?_
    first | (exact ⟨rfl, hE⟩) | (exact (tfX hg22).elim) | (exact (decF hg22).elim) | (exfalso; omega)
  · have hp22 := of_decide_eq_false hg22
    refine W_skip ?_
    refine thenE_n ?_
    refine W_seq ?_
    refine W_region ?_
    refine WL_q rfl (ev_loads st25 sz25 rfl (cellsB hB3) rfl) ?_
    refine WL_m rfl (ev_call rfl (toNetwork_spec _ A _ hA (by omega) (by omega))) ?_
    rintro _ w25 ⟨h25, rfl, hF25, hE25⟩
    have hz25 := hE25.size
    replace hE := hE.trans hE25
    replace hA := hA.ext hE25
    replace hB3 := hB3.ext hE25
    have hN25 := hF25.is
    refine WL_q rfl (ev_move rfl) ?_
    refine WL_q rfl (ev_move rfl) ?_
    refine WL_m rfl (ev_call rfl (sBallOf_spec _ A _ _ _ hN25 (by omega) (by omega))) ?_
    rintro _ w28 ⟨a28, c28, y28, q28, rfl, hr28, hx28, hl28, hE28⟩
    have hz28 := hE28.size
    replace hE := hE.trans hE28
    replace hA := hA.ext hE28
    replace hB3 := hB3.ext hE28
    replace hF25 := hF25.ext hE28
    replace hN25 := hN25.ext hE28
    refine WL_q rfl (ev_move rfl) ?_
    refine WL_q rfl (ev_extract rfl rfl) ?_
    refine WL_q rfl (ev_extract rfl rfl) ?_
    refine WL_q rfl (ev_assign rfl) ?_
    refine WL_q rfl (ev_assign rfl) ?_
    refine WL_nil ?_
    refine thenE_n ?_
    refine W_seq ?_
    refine W_region ?_
    refine WL_q rfl (ev_loads st25 sz25 rfl (cellsB hB3) rfl) ?_
    refine WL_m rfl (ev_call rfl (toNetwork_spec _ A _ hA (by omega) (by omega))) ?_
    rintro _ w32 ⟨h32, rfl, hF32, hE32⟩
    have hz32 := hE32.size
    replace hE := hE.trans hE32
    replace hA := hA.ext hE32
    replace hB3 := hB3.ext hE32
    replace hF25 := hF25.ext hE32
    replace hN25 := hN25.ext hE32
    replace hx28 := hx28.ext hE32
    have hN32 := hF32.is
    refine WL_m rfl (ev_alloc zr31) ?_
    rintro _ w10 ⟨rfl, hN10⟩
    have hz10 := hN10.size
    replace hE := hE.trans hN10.ext
    replace hA := hA.ext hN10.ext
    replace hB3 := hB3.ext hN10.ext
    replace hF25 := hF25.ext hN10.ext
    replace hN25 := hN25.ext hN10.ext
    replace hx28 := hx28.ext hN10.ext
    replace hF32 := hF32.ext hN10.ext
    replace hN32 := hN32.ext hN10.ext
    have hB10 : Blk w10 _ _ [_, _, _] := hN10.blk
    refine WL_s (ev_stores sz31 rfl rfl rfl (by simp [Value.oneCell']) hB10 (by simp)) ?_
    rintro _ w6_3 hS6_3
    have hz6_3 := hS6_3.size
    replace hE := hE.sto hS6_3 (by omega)
    replace hA := hA.sto hS6_3 (by omega)
    replace hB3 := hB3.sto hS6_3 (by omega)
    replace hF25 := hF25.sto hS6_3 (by omega)
    replace hN25 := hN25.sto hS6_3 (by omega)
    replace hx28 := hx28.sto hS6_3 (by omega)
    replace hF32 := hF32.sto hS6_3 (by omega)
    replace hN32 := hN32.sto hS6_3 (by omega)
    replace hB10 : Blk w6_3 _ _ [_, _, _] := hS6_3.blk
    refine WL_nil ?_
    refine thenE_n ?_
    refine W_seq ?_
    refine W_region ?_
    refine WL_q rfl (ev_loads st31 sz31 rfl (cellsB hB10) rfl) ?_
    refine WL_q rfl (ev_move rfl) ?_
    refine WL_q rfl (ev_move rfl) ?_
    refine WL_m rfl (ev_call rfl (BallOf_spec _ A _ _ _ hN32 (by omega) (by omega))) ?_
    rintro _ w37 ⟨a37, c37, y37, q37, rfl, hr37, hO37, hl37, hE37⟩
    have hz37 := hE37.size
    replace hE := hE.trans hE37
    replace hA := hA.ext hE37
    replace hB3 := hB3.ext hE37
    replace hF25 := hF25.ext hE37
    replace hN25 := hN25.ext hE37
    replace hx28 := hx28.ext hE37
    replace hF32 := hF32.ext hE37
    replace hN32 := hN32.ext hE37
    replace hB10 := hB10.ext hE37
    refine WL_q rfl (ev_move rfl) ?_
    refine WL_q rfl (ev_extract rfl rfl) ?_
    refine WL_q rfl (ev_extract rfl rfl) ?_
    refine WL_q rfl (ev_assign rfl) ?_
    refine WL_q rfl (ev_assign rfl) ?_
    refine WL_nil ?_
    refine thenE_n ?_
    refine W_seq ?_
    refine W_seq ?_
    refine W_region ?_
    refine WL_q rfl (ev_move rfl) ?_
    refine WL_q rfl (ev_move rfl) ?_
    refine WL_m rfl (ev_call rfl (eqIntS_spec _ _ _ _ y37 y28 _ (ownt_i hO37) hx28 (by omega))) ?_
    rintro _ w42 ⟨rfl, hE42⟩
    have hz42 := hE42.size
    replace hE := hE.trans hE42
    replace hA := hA.ext hE42
    replace hB3 := hB3.ext hE42
    replace hF25 := hF25.ext hE42
    replace hN25 := hN25.ext hE42
    replace hx28 := hx28.ext hE42
    replace hF32 := hF32.ext hE42
    replace hN32 := hN32.ext hE42
    replace hB10 := hB10.ext hE42
    replace hO37 := hO37.ext hE42
    refine WL_q rfl (ev_not rfl) ?_
    refine WL_q rfl (ev_move rfl) ?_
    refine WL_splitv (t := 44) rfl (fun hg43 => ?_) (fun hg43 => ?_)
    · have hg42 := not_true hg43
      refine WL_no rfl rfl hg43 rfl ?_
      refine WL_no rfl rfl hg43 rfl ?_
      refine WL_no rfl rfl hg43 rfl ?_
      refine WL_q rfl (ev_pick_t rfl hg43 rfl) ?_
      refine WL_nil ?_
      refine thenE_n ?_
      refine W_cond_t rfl ?_
      refine W_seq ?_
      refine W_region ?_
      refine WL_q rfl (ev_assign rfl) ?_
      refine WL_nil ?_
      refine thenE_n ?_
      refine W_ret ?_
      refine thenE_r ?_
      refine ret1 rfl rfl ?_
      first | (exact ⟨rfl, hE⟩) | (exact (bneE hg42 (hr37.det1 hr28)).elim) | (exact absurd (hr37.det1 hr28) hp42) | (exact absurd (hr37.det1 hr28) (of_decide_eq_false hg42)) | (exact (bneE hg42 (hr37.det2 hr28)).elim) | (exact absurd (hr37.det2 hr28) hp42) | (exact absurd (hr37.det2 hr28) (of_decide_eq_false hg42)) | (exact (bneE hg42 (hr37.det3 hr28)).elim) | (exact absurd (hr37.det3 hr28) hp42) | (exact absurd (hr37.det3 hr28) (of_decide_eq_false hg42)) | (exact (tfX hg42).elim) | (exact (decF hg42).elim) | (exfalso; omega)
    · have hg42 := not_false hg43
      refine WL_qg rfl rfl hg43 rfl (ev_move rfl) ?_
      refine WL_qg rfl rfl hg43 rfl (ev_move rfl) ?_
      refine WL_qg rfl rfl hg43 rfl (ev_neq_b Try.underlying4 rfl rfl) ?_
      refine WL_q rfl (ev_pick_f rfl hg43 rfl) ?_
      refine WL_nil ?_
      refine thenE_n ?_
      refine W_cond rfl (fun hg47 => ?_) (fun hg47 => ?_)
      · refine W_seq ?_
        refine W_region ?_
        refine WL_q rfl (ev_assign rfl) ?_
        refine WL_nil ?_
        refine thenE_n ?_
        refine W_ret ?_
        refine thenE_r ?_
        refine ret1 rfl rfl ?_
        first | (exact ⟨rfl, hE⟩) | (exact (bneE hg47 (hr37.det1 hr28)).elim) | (exact absurd (hr37.det1 hr28) hp47) | (exact absurd (hr37.det1 hr28) (of_decide_eq_false hg47)) | (exact (bneE hg47 (hr37.det2 hr28)).elim) | (exact absurd (hr37.det2 hr28) hp47) | (exact absurd (hr37.det2 hr28) (of_decide_eq_false hg47)) | (exact (bneE hg47 (hr37.det3 hr28)).elim) | (exact absurd (hr37.det3 hr28) hp47) | (exact absurd (hr37.det3 hr28) (of_decide_eq_false hg47)) | (exact (tfX hg47).elim) | (exact (decF hg47).elim) | (exfalso; omega)
      · refine W_skip ?_
        refine thenE_n ?_
        refine W_seq ?_
        refine W_seq ?_
        refine W_drawE [(0, true), (1, true), (2, false), (3, false), (4, true)] mixed (by kernel_rfl) rfl (by kernel_rfl) ?_
        intro wd10 hEd10 hzd10
        replace hE := hE.trans hEd10
        replace hA := hA.ext hEd10
        replace hB3 := hB3.ext hEd10
        replace hF25 := hF25.ext hEd10
        replace hN25 := hN25.ext hEd10
        replace hx28 := hx28.ext hEd10
        replace hF32 := hF32.ext hEd10
        replace hN32 := hN32.ext hEd10
        replace hB10 := hB10.ext hEd10
        replace hO37 := hO37.ext hEd10
        have hDd10 := Ext.refl wd10
        refine PW_q rfl rfl (fun wq hq => ev_loads st31 sz31 rfl (cellsB (hq.blk hB10)) rfl) ?_
        refine PW_q rfl rfl (fun wq hq => ev_loads st25 sz25 rfl (cellsB (hq.blk hB3)) rfl) ?_
        refine PW_m rfl rfl (ev_call rfl (toNetwork_spec _ A _ hA (by omega) (by omega))) ?_
        rintro _ w51 ⟨h51, rfl, hF51, hE51⟩
        have hz51 := hE51.size
        replace hE := hE.trans hE51
        replace hDd10 := hDd10.trans hE51
        have hN51 := hF51.is
        refine ⟨hDd10, ?_⟩
        have hA_3 := hA.ext hDd10
        have hB3_3 := hB3.ext hDd10
        have hF25_3 := hF25.ext hDd10
        have hN25_3 := hN25.ext hDd10
        have hx28_3 := hx28.ext hDd10
        have hF32_3 := hF32.ext hDd10
        have hN32_3 := hN32.ext hDd10
        have hB10_3 := hB10.ext hDd10
        have hO37_3 := hO37.ext hDd10
        refine PW_m rfl rfl (ev_call rfl (eqNetwork_spec _ _ A _ hN32_3 hN51 (by omega))) ?_
        rintro _ w52 ⟨rfl, hE52⟩
        have hz52 := hE52.size
        replace hE := hE.trans hE52
        replace hDd10 := hDd10.trans hE52
        replace hF51 := hF51.ext hE52
        replace hN51 := hN51.ext hE52
        refine ⟨hDd10, ?_⟩
        refine PW_q rfl rfl (fun wq hq => ev_not rfl) ?_
        replace hA := hA.ext hDd10
        replace hB3 := hB3.ext hDd10
        replace hF25 := hF25.ext hDd10
        replace hN25 := hN25.ext hDd10
        replace hx28 := hx28.ext hDd10
        replace hF32 := hF32.ext hDd10
        replace hN32 := hN32.ext hDd10
        replace hB10 := hB10.ext hDd10
        replace hO37 := hO37.ext hDd10
        refine PW_nil ?_
        refine thenE_n ?_
        refine W_cond rfl (fun hg53 => ?_) (fun hg53 => ?_)
        · have hg52 := not_true hg53
          refine W_seq ?_
          refine W_region ?_
          refine WL_q rfl (ev_assign rfl) ?_
          refine WL_nil ?_
          refine thenE_n ?_
          refine W_ret ?_
          refine thenE_r ?_
          refine ret1 rfl rfl ?_
          first | (exact ⟨rfl, hE⟩) | (exact (bneE hg52 (hr37.det1 hr28)).elim) | (exact absurd (hr37.det1 hr28) hp52) | (exact absurd (hr37.det1 hr28) (of_decide_eq_false hg52)) | (exact (bneE hg52 (hr37.det2 hr28)).elim) | (exact absurd (hr37.det2 hr28) hp52) | (exact absurd (hr37.det2 hr28) (of_decide_eq_false hg52)) | (exact (bneE hg52 (hr37.det3 hr28)).elim) | (exact absurd (hr37.det3 hr28) hp52) | (exact absurd (hr37.det3 hr28) (of_decide_eq_false hg52)) | (exact (tfX hg52).elim) | (exact (decF hg52).elim) | (exfalso; omega)
        · have hg52 := not_false hg53
          refine W_skip ?_
          refine thenE_n ?_
          refine W_seq ?_
          refine W_region ?_
          refine WL_q rfl (ev_assign rfl) ?_
          refine WL_nil ?_
          refine thenE_n ?_
          refine W_seq ?_
          refine W_region ?_
          refine WL_q rfl (ev_loads st31 sz31 rfl (cellsB hB10) rfl) ?_
          refine WL_q rfl (ev_move rfl) ?_
          refine WL_m rfl (ev_call rfl (markNetwork_spec _ A _ _ hF32 (by omega) (by omega) (by omega))) ?_
          rintro _ w56 ⟨r56, rfl, hr56, hK56⟩
          have hz56 := hK56.size
          replace hE := hE.mrk hK56 (by omega)
          replace hA := hA.mrk hK56 (by omega)
          replace hB3 := hB3.mrk hK56 (by omega)
          replace hF25 := hF25.mrk hK56 (by omega)
          replace hN25 := hN25.mrk hK56 (by omega)
          replace hx28 := hx28.mrk hK56 (by omega)
          replace hB10 := hB10.mrk hK56 (by omega)
          replace hO37 := hO37.mrk hK56 (by omega)
          replace hF51 := hF51.mrk hK56 (by omega)
          replace hN51 := hN51.mrk hK56 (by omega)
          refine WL_q rfl (ev_assign rfl) ?_
          refine WL_nil ?_
          refine thenE_n ?_
          refine W_seq ?_
          refine W_seq ?_
          refine W_region ?_
          refine WL_q rfl (ev_move rfl) ?_
          refine WL_q rfl (ev_lss rfl rfl) ?_
          refine WL_q rfl (ev_move rfl) ?_
          refine WL_splitv (t := 59) rfl (fun hg58 => ?_) (fun hg58 => ?_)
          · have hp58 := of_decide_eq_true hg58
            refine WL_no rfl rfl hg58 rfl ?_
            refine WL_no rfl rfl hg58 rfl ?_
            refine WL_no rfl rfl hg58 rfl ?_
            refine WL_no rfl rfl hg58 rfl ?_
            refine WL_q rfl (ev_pick_t rfl hg58 rfl) ?_
            refine WL_q rfl (ev_move rfl) ?_
            refine WL_no rfl rfl rfl rfl ?_
            refine WL_no rfl rfl rfl rfl ?_
            refine WL_no rfl rfl rfl rfl ?_
            refine WL_q rfl (ev_pick_t rfl rfl rfl) ?_
            refine WL_nil ?_
            refine thenE_n ?_
            refine W_cond_t rfl ?_
            refine W_seq ?_
            refine W_region ?_
            refine WL_q rfl (ev_assign rfl) ?_
            refine WL_nil ?_
            refine thenE_n ?_
            refine W_ret ?_
            refine thenE_r ?_
            refine ret1 rfl rfl ?_
            first | (exact ⟨rfl, hE⟩) | (exact (bneE hg58 (hr37.det1 hr28)).elim) | (exact absurd (hr37.det1 hr28) hp58) | (exact absurd (hr37.det1 hr28) (of_decide_eq_false hg58)) | (exact (bneE hg58 (hr37.det2 hr28)).elim) | (exact absurd (hr37.det2 hr28) hp58) | (exact absurd (hr37.det2 hr28) (of_decide_eq_false hg58)) | (exact (bneE hg58 (hr37.det3 hr28)).elim) | (exact absurd (hr37.det3 hr28) hp58) | (exact absurd (hr37.det3 hr28) (of_decide_eq_false hg58)) | (exact (tfX hg58).elim) | (exact (decF hg58).elim) | (exfalso; omega)
          · have hp58 := of_decide_eq_false hg58
            refine WL_qg rfl rfl hg58 rfl (ev_move rfl) ?_
            refine WL_qg rfl rfl hg58 rfl (ev_move rfl) ?_
            refine WL_mg rfl rfl hg58 rfl (ev_call rfl (eqIntS_spec _ _ _ _ y37 y28 _ (ownt_i hO37) hx28 (by omega))) ?_
            rintro _ w62 ⟨rfl, hE62⟩
            have hz62 := hE62.size
            replace hE := hE.trans hE62
            replace hA := hA.ext hE62
            replace hB3 := hB3.ext hE62
            replace hF25 := hF25.ext hE62
            replace hN25 := hN25.ext hE62
            replace hx28 := hx28.ext hE62
            replace hB10 := hB10.ext hE62
            replace hO37 := hO37.ext hE62
            replace hF51 := hF51.ext hE62
            replace hN51 := hN51.ext hE62
            refine WL_qg rfl rfl hg58 rfl (ev_not rfl) ?_
            refine WL_q rfl (ev_pick_f rfl hg58 rfl) ?_
            refine WL_q rfl (ev_move rfl) ?_
            refine WL_splitv (t := 65) rfl (fun hg63 => ?_) (fun hg63 => ?_)
            · have hg62 := not_true hg63
              refine WL_no rfl rfl hg63 rfl ?_
              refine WL_no rfl rfl hg63 rfl ?_
              refine WL_no rfl rfl hg63 rfl ?_
              refine WL_q rfl (ev_pick_t rfl hg63 rfl) ?_
              refine WL_nil ?_
              refine thenE_n ?_
              refine W_cond_t rfl ?_
              refine W_seq ?_
              refine W_region ?_
              refine WL_q rfl (ev_assign rfl) ?_
              refine WL_nil ?_
              refine thenE_n ?_
              refine W_ret ?_
              refine thenE_r ?_
              refine ret1 rfl rfl ?_
              first | (exact ⟨rfl, hE⟩) | (exact (bneE hg62 (hr37.det1 hr28)).elim) | (exact absurd (hr37.det1 hr28) hp62) | (exact absurd (hr37.det1 hr28) (of_decide_eq_false hg62)) | (exact (bneE hg62 (hr37.det2 hr28)).elim) | (exact absurd (hr37.det2 hr28) hp62) | (exact absurd (hr37.det2 hr28) (of_decide_eq_false hg62)) | (exact (bneE hg62 (hr37.det3 hr28)).elim) | (exact absurd (hr37.det3 hr28) hp62) | (exact absurd (hr37.det3 hr28) (of_decide_eq_false hg62)) | (exact (tfX hg62).elim) | (exact (decF hg62).elim) | (exfalso; omega)
            · have hg62 := not_false hg63
              refine WL_qg rfl rfl hg63 rfl (ev_move rfl) ?_
              refine WL_qg rfl rfl hg63 rfl (ev_move rfl) ?_
              refine WL_qg rfl rfl hg63 rfl (ev_neq_b Try.underlying4 rfl rfl) ?_
              refine WL_q rfl (ev_pick_f rfl hg63 rfl) ?_
              refine WL_nil ?_
              refine thenE_n ?_
              refine W_cond rfl (fun hg68 => ?_) (fun hg68 => ?_)
              · refine W_seq ?_
                refine W_region ?_
                refine WL_q rfl (ev_assign rfl) ?_
                refine WL_nil ?_
                refine thenE_n ?_
                refine W_ret ?_
                refine thenE_r ?_
                refine ret1 rfl rfl ?_
                first | (exact ⟨rfl, hE⟩) | (exact (bneE hg68 (hr37.det1 hr28)).elim) | (exact absurd (hr37.det1 hr28) hp68) | (exact absurd (hr37.det1 hr28) (of_decide_eq_false hg68)) | (exact (bneE hg68 (hr37.det2 hr28)).elim) | (exact absurd (hr37.det2 hr28) hp68) | (exact absurd (hr37.det2 hr28) (of_decide_eq_false hg68)) | (exact (bneE hg68 (hr37.det3 hr28)).elim) | (exact absurd (hr37.det3 hr28) hp68) | (exact absurd (hr37.det3 hr28) (of_decide_eq_false hg68)) | (exact (tfX hg68).elim) | (exact (decF hg68).elim) | (exfalso; omega)
              · refine W_skip ?_
                refine thenE_n ?_
                refine W_seq ?_
                refine W_region ?_
                refine WL_q rfl (ev_assign rfl) ?_
                refine WL_nil ?_
                refine thenE_n ?_
                refine W_seq ?_
                refine W_region ?_
                refine WL_q rfl (ev_move rfl) ?_
                refine WL_q rfl (ev_move rfl) ?_
                refine WL_m rfl (ev_call rfl (markIntS_ownH hO37 (by omega) (by omega))) ?_
                rintro _ w72 ⟨rfl, hO72, hK72⟩
                have hz72 := hK72.size
                have hR72 := hK72
                replace hE := hE.rg hR72 (by omega)
                replace hA := hA.rg hR72 (by omega)
                replace hB3 := hB3.rg hR72 (by omega)
                replace hF25 := hF25.rg hR72 (by omega)
                replace hN25 := hN25.rg hR72 (by omega)
                replace hx28 := hx28.rg hR72 (by omega)
                replace hB10 := hB10.rg hR72 (by omega)
                replace hF51 := hF51.rg hR72 (by omega)
                replace hN51 := hN51.rg hR72 (by omega)
                replace hO37 := hO72
                refine WL_q rfl (ev_assign rfl) ?_
                refine WL_nil ?_
                refine thenE_n ?_
                refine W_seq ?_
                refine W_region ?_
                refine WL_q rfl (ev_assign rfl) ?_
                refine WL_nil ?_
                refine thenE_n ?_
                refine W_seq ?_
                refine W_region ?_
                refine WL_q rfl (ev_move rfl) ?_
                refine WL_q rfl (ev_move rfl) ?_
                refine WL_m rfl (ev_call rfl (heldIntS_spec _ _ (nums 1 y37.length) _ _ (Ints.of_own (nums_len _ _) hO37.1) rfl (by omega) (by omega))) ?_
                rintro _ w75 ⟨rfl, hE75⟩
                have hz75 := hE75.size
                replace hE := hE.trans hE75
                replace hA := hA.ext hE75
                replace hB3 := hB3.ext hE75
                replace hF25 := hF25.ext hE75
                replace hN25 := hN25.ext hE75
                replace hx28 := hx28.ext hE75
                replace hB10 := hB10.ext hE75
                replace hO37 := hO37.ext hE75
                replace hF51 := hF51.ext hE75
                replace hN51 := hN51.ext hE75
                refine WL_q rfl (ev_assign rfl) ?_
                refine WL_nil ?_
                refine thenE_n ?_
                refine W_seq ?_
                refine W_seq ?_
                refine W_region ?_
                refine WL_q rfl (ev_move rfl) ?_
                refine WL_q rfl (ev_lss rfl rfl) ?_
                refine WL_nil ?_
                refine thenE_n ?_
                refine W_cond rfl (fun hg77 => ?_) (fun hg77 => ?_)
                · have hp77 := of_decide_eq_true hg77
                  refine W_seq ?_
                  refine W_region ?_
                  refine WL_q rfl (ev_assign rfl) ?_
                  refine WL_nil ?_
                  refine thenE_n ?_
                  refine W_ret ?_
                  refine thenE_r ?_
                  refine ret1 rfl rfl ?_
                  first | (exact ⟨rfl, hE⟩) | (exact (bneE hg77 (hr37.det1 hr28)).elim) | (exact absurd (hr37.det1 hr28) hp77) | (exact absurd (hr37.det1 hr28) (of_decide_eq_false hg77)) | (exact (bneE hg77 (hr37.det2 hr28)).elim) | (exact absurd (hr37.det2 hr28) hp77) | (exact absurd (hr37.det2 hr28) (of_decide_eq_false hg77)) | (exact (bneE hg77 (hr37.det3 hr28)).elim) | (exact absurd (hr37.det3 hr28) hp77) | (exact absurd (hr37.det3 hr28) (of_decide_eq_false hg77)) | (exact (tfX hg77).elim) | (exact (decF hg77).elim) | (exfalso; omega)
                · have hp77 := of_decide_eq_false hg77
                  refine W_skip ?_
                  refine thenE_n ?_
                  refine W_seq ?_
                  refine W_seq ?_
                  refine W_region ?_
                  refine WL_q rfl (ev_move rfl) ?_
                  refine WL_q rfl (ev_move rfl) ?_
                  refine WL_q rfl (ev_neq rfl rfl) ?_
                  refine WL_nil ?_
                  refine thenE_n ?_
                  refine W_cond rfl (fun hg80 => ?_) (fun hg80 => ?_)
                  · have hp80 := of_decide_eq_true hg80
                    refine W_seq ?_
                    refine W_region ?_
                    refine WL_q rfl (ev_assign rfl) ?_
                    refine WL_nil ?_
                    refine thenE_n ?_
                    refine W_ret ?_
                    refine thenE_r ?_
                    refine ret1 rfl rfl ?_
                    first | (exact ⟨rfl, hE⟩) | (exact (bneE hg80 (hr37.det1 hr28)).elim) | (exact absurd (hr37.det1 hr28) hp80) | (exact absurd (hr37.det1 hr28) (of_decide_eq_false hg80)) | (exact (bneE hg80 (hr37.det2 hr28)).elim) | (exact absurd (hr37.det2 hr28) hp80) | (exact absurd (hr37.det2 hr28) (of_decide_eq_false hg80)) | (exact (bneE hg80 (hr37.det3 hr28)).elim) | (exact absurd (hr37.det3 hr28) hp80) | (exact absurd (hr37.det3 hr28) (of_decide_eq_false hg80)) | (exact (tfX hg80).elim) | (exact (decF hg80).elim) | (exfalso; omega)
                  · have hp80 := of_decide_eq_false hg80
                    refine W_skip ?_
                    refine thenE_n ?_
                    refine W_seq ?_
                    refine W_region ?_
                    refine WL_q rfl (ev_loads st25 sz25 rfl (cellsB hB3) rfl) ?_
                    refine WL_m rfl (ev_call rfl (toNetwork_spec _ A _ hA (by omega) (by omega))) ?_
                    rintro _ w83 ⟨h83, rfl, hF83, hE83⟩
                    have hz83 := hE83.size
                    replace hE := hE.trans hE83
                    replace hA := hA.ext hE83
                    replace hB3 := hB3.ext hE83
                    replace hF25 := hF25.ext hE83
                    replace hN25 := hN25.ext hE83
                    replace hx28 := hx28.ext hE83
                    replace hB10 := hB10.ext hE83
                    replace hO37 := hO37.ext hE83
                    replace hF51 := hF51.ext hE83
                    replace hN51 := hN51.ext hE83
                    have hN83 := hF83.is
                    refine WL_q rfl (ev_move rfl) ?_
                    refine WL_q rfl (ev_move rfl) ?_
                    refine WL_m rfl (ev_call rfl (BallOf_spec _ A _ _ _ hN83 (by omega) (by omega))) ?_
                    rintro _ w86 ⟨a86, c86, y86, q86, rfl, hr86, hO86, hl86, hE86⟩
                    have hz86 := hE86.size
                    replace hE := hE.trans hE86
                    replace hA := hA.ext hE86
                    replace hB3 := hB3.ext hE86
                    replace hF25 := hF25.ext hE86
                    replace hN25 := hN25.ext hE86
                    replace hx28 := hx28.ext hE86
                    replace hB10 := hB10.ext hE86
                    replace hO37 := hO37.ext hE86
                    replace hF51 := hF51.ext hE86
                    replace hN51 := hN51.ext hE86
                    replace hF83 := hF83.ext hE86
                    replace hN83 := hN83.ext hE86
                    refine WL_q rfl (ev_move rfl) ?_
                    refine WL_q rfl (ev_extract rfl rfl) ?_
                    refine WL_q rfl (ev_extract rfl rfl) ?_
                    refine WL_q rfl (ev_assign rfl) ?_
                    refine WL_q rfl (ev_assign rfl) ?_
                    refine WL_nil ?_
                    refine thenE_n ?_
                    refine W_seq ?_
                    refine W_seq ?_
                    refine W_region ?_
                    refine WL_q rfl (ev_move rfl) ?_
                    refine WL_q rfl (ev_move rfl) ?_
                    refine WL_m rfl (ev_call rfl (eqIntS_spec _ _ _ _ y86 y28 _ (ownt_i hO86) hx28 (by omega))) ?_
                    rintro _ w91 ⟨rfl, hE91⟩
                    have hz91 := hE91.size
                    replace hE := hE.trans hE91
                    replace hA := hA.ext hE91
                    replace hB3 := hB3.ext hE91
                    replace hF25 := hF25.ext hE91
                    replace hN25 := hN25.ext hE91
                    replace hx28 := hx28.ext hE91
                    replace hB10 := hB10.ext hE91
                    replace hO37 := hO37.ext hE91
                    replace hF51 := hF51.ext hE91
                    replace hN51 := hN51.ext hE91
                    replace hF83 := hF83.ext hE91
                    replace hN83 := hN83.ext hE91
                    replace hO86 := hO86.ext hE91
                    refine WL_q rfl (ev_not rfl) ?_
                    refine WL_q rfl (ev_move rfl) ?_
                    refine WL_splitv (t := 93) rfl (fun hg92 => ?_) (fun hg92 => ?_)
                    · have hg91 := not_true hg92
                      refine WL_no rfl rfl hg92 rfl ?_
                      refine WL_no rfl rfl hg92 rfl ?_
                      refine WL_no rfl rfl hg92 rfl ?_
                      refine WL_q rfl (ev_pick_t rfl hg92 rfl) ?_
                      refine WL_nil ?_
                      refine thenE_n ?_
                      refine W_cond_t rfl ?_
                      refine W_seq ?_
                      refine W_region ?_
                      refine WL_q rfl (ev_assign rfl) ?_
                      refine WL_nil ?_
                      refine thenE_n ?_
                      refine W_ret ?_
                      refine thenE_r ?_
                      refine ret1 rfl rfl ?_
                      first | (exact ⟨rfl, hE⟩) | (exact (bneE hg91 (hr86.det1 hr28)).elim) | (exact absurd (hr86.det1 hr28) hp91) | (exact absurd (hr86.det1 hr28) (of_decide_eq_false hg91)) | (exact (bneE hg91 (hr86.det2 hr28)).elim) | (exact absurd (hr86.det2 hr28) hp91) | (exact absurd (hr86.det2 hr28) (of_decide_eq_false hg91)) | (exact (bneE hg91 (hr86.det3 hr28)).elim) | (exact absurd (hr86.det3 hr28) hp91) | (exact absurd (hr86.det3 hr28) (of_decide_eq_false hg91)) | (exact (bneE hg91 (hr37.det1 hr28)).elim) | (exact absurd (hr37.det1 hr28) hp91) | (exact absurd (hr37.det1 hr28) (of_decide_eq_false hg91)) | (exact (bneE hg91 (hr37.det2 hr28)).elim) | (exact absurd (hr37.det2 hr28) hp91) | (exact absurd (hr37.det2 hr28) (of_decide_eq_false hg91)) | (exact (bneE hg91 (hr37.det3 hr28)).elim) | (exact absurd (hr37.det3 hr28) hp91) | (exact absurd (hr37.det3 hr28) (of_decide_eq_false hg91)) | (exact (tfX hg91).elim) | (exact (decF hg91).elim) | (exfalso; omega)
                    · have hg91 := not_false hg92
                      refine WL_qg rfl rfl hg92 rfl (ev_move rfl) ?_
                      refine WL_qg rfl rfl hg92 rfl (ev_move rfl) ?_
                      refine WL_qg rfl rfl hg92 rfl (ev_neq_b Try.underlying4 rfl rfl) ?_
                      refine WL_q rfl (ev_pick_f rfl hg92 rfl) ?_
                      refine WL_nil ?_
                      refine thenE_n ?_
                      refine W_cond rfl (fun hg96 => ?_) (fun hg96 => ?_)
                      · refine W_seq ?_
                        refine W_region ?_
                        refine WL_q rfl (ev_assign rfl) ?_
                        refine WL_nil ?_
                        refine thenE_n ?_
                        refine W_ret ?_
                        refine thenE_r ?_
                        refine ret1 rfl rfl ?_
                        first | (exact ⟨rfl, hE⟩) | (exact (bneE hg96 (hr86.det1 hr28)).elim) | (exact absurd (hr86.det1 hr28) hp96) | (exact absurd (hr86.det1 hr28) (of_decide_eq_false hg96)) | (exact (bneE hg96 (hr86.det2 hr28)).elim) | (exact absurd (hr86.det2 hr28) hp96) | (exact absurd (hr86.det2 hr28) (of_decide_eq_false hg96)) | (exact (bneE hg96 (hr86.det3 hr28)).elim) | (exact absurd (hr86.det3 hr28) hp96) | (exact absurd (hr86.det3 hr28) (of_decide_eq_false hg96)) | (exact (bneE hg96 (hr37.det1 hr28)).elim) | (exact absurd (hr37.det1 hr28) hp96) | (exact absurd (hr37.det1 hr28) (of_decide_eq_false hg96)) | (exact (bneE hg96 (hr37.det2 hr28)).elim) | (exact absurd (hr37.det2 hr28) hp96) | (exact absurd (hr37.det2 hr28) (of_decide_eq_false hg96)) | (exact (bneE hg96 (hr37.det3 hr28)).elim) | (exact absurd (hr37.det3 hr28) hp96) | (exact absurd (hr37.det3 hr28) (of_decide_eq_false hg96)) | (exact (tfX hg96).elim) | (exact (decF hg96).elim) | (exfalso; omega)
                      · refine W_skip ?_
                        refine thenE_n ?_
                        refine W_seq ?_
                        refine W_region ?_
                        refine WL_q rfl (ev_assign rfl) ?_
                        refine WL_nil ?_
                        refine thenE_n ?_
                        refine W_seq ?_
                        refine W_region ?_
                        refine WL_q rfl (ev_move rfl) ?_
                        refine WL_q rfl (ev_move rfl) ?_
                        refine WL_m rfl (ev_call rfl (heldIntS_spec _ _ (nums 1 y37.length) _ _ (Ints.of_own (nums_len _ _) hO37.1) rfl (by omega) (by omega))) ?_
                        rintro _ w100 ⟨rfl, hE100⟩
                        have hz100 := hE100.size
                        replace hE := hE.trans hE100
                        replace hA := hA.ext hE100
                        replace hB3 := hB3.ext hE100
                        replace hF25 := hF25.ext hE100
                        replace hN25 := hN25.ext hE100
                        replace hx28 := hx28.ext hE100
                        replace hB10 := hB10.ext hE100
                        replace hO37 := hO37.ext hE100
                        replace hF51 := hF51.ext hE100
                        replace hN51 := hN51.ext hE100
                        replace hF83 := hF83.ext hE100
                        replace hN83 := hN83.ext hE100
                        replace hO86 := hO86.ext hE100
                        refine WL_q rfl (ev_assign rfl) ?_
                        refine WL_nil ?_
                        refine thenE_n ?_
                        refine W_seq ?_
                        refine W_seq ?_
                        refine W_region ?_
                        refine WL_q rfl (ev_move rfl) ?_
                        refine WL_q rfl (ev_lss rfl rfl) ?_
                        refine WL_nil ?_
                        refine thenE_n ?_
                        refine W_cond rfl (fun hg102 => ?_) (fun hg102 => ?_)
                        · have hp102 := of_decide_eq_true hg102
                          refine W_seq ?_
                          refine W_region ?_
                          refine WL_q rfl (ev_assign rfl) ?_
                          refine WL_nil ?_
                          refine thenE_n ?_
                          refine W_ret ?_
                          refine thenE_r ?_
                          refine ret1 rfl rfl ?_
                          first | (exact ⟨rfl, hE⟩) | (exact (bneE hg102 (hr86.det1 hr28)).elim) | (exact absurd (hr86.det1 hr28) hp102) | (exact absurd (hr86.det1 hr28) (of_decide_eq_false hg102)) | (exact (bneE hg102 (hr86.det2 hr28)).elim) | (exact absurd (hr86.det2 hr28) hp102) | (exact absurd (hr86.det2 hr28) (of_decide_eq_false hg102)) | (exact (bneE hg102 (hr86.det3 hr28)).elim) | (exact absurd (hr86.det3 hr28) hp102) | (exact absurd (hr86.det3 hr28) (of_decide_eq_false hg102)) | (exact (bneE hg102 (hr37.det1 hr28)).elim) | (exact absurd (hr37.det1 hr28) hp102) | (exact absurd (hr37.det1 hr28) (of_decide_eq_false hg102)) | (exact (bneE hg102 (hr37.det2 hr28)).elim) | (exact absurd (hr37.det2 hr28) hp102) | (exact absurd (hr37.det2 hr28) (of_decide_eq_false hg102)) | (exact (bneE hg102 (hr37.det3 hr28)).elim) | (exact absurd (hr37.det3 hr28) hp102) | (exact absurd (hr37.det3 hr28) (of_decide_eq_false hg102)) | (exact (tfX hg102).elim) | (exact (decF hg102).elim) | (exfalso; omega)
                        · have hp102 := of_decide_eq_false hg102
                          refine W_skip ?_
                          refine thenE_n ?_
                          refine W_seq ?_
                          refine W_seq ?_
                          refine W_region ?_
                          refine WL_q rfl (ev_move rfl) ?_
                          refine WL_q rfl (ev_move rfl) ?_
                          refine WL_q rfl (ev_neq rfl rfl) ?_
                          refine WL_nil ?_
                          refine thenE_n ?_
                          refine W_cond rfl (fun hg105 => ?_) (fun hg105 => ?_)
                          · have hp105 := of_decide_eq_true hg105
                            refine W_seq ?_
                            refine W_region ?_
                            refine WL_q rfl (ev_assign rfl) ?_
                            refine WL_nil ?_
                            refine thenE_n ?_
                            refine W_ret ?_
                            refine thenE_r ?_
                            refine ret1 rfl rfl ?_
                            first | (exact ⟨rfl, hE⟩) | (exact (bneE hg105 (hr86.det1 hr28)).elim) | (exact absurd (hr86.det1 hr28) hp105) | (exact absurd (hr86.det1 hr28) (of_decide_eq_false hg105)) | (exact (bneE hg105 (hr86.det2 hr28)).elim) | (exact absurd (hr86.det2 hr28) hp105) | (exact absurd (hr86.det2 hr28) (of_decide_eq_false hg105)) | (exact (bneE hg105 (hr86.det3 hr28)).elim) | (exact absurd (hr86.det3 hr28) hp105) | (exact absurd (hr86.det3 hr28) (of_decide_eq_false hg105)) | (exact (bneE hg105 (hr37.det1 hr28)).elim) | (exact absurd (hr37.det1 hr28) hp105) | (exact absurd (hr37.det1 hr28) (of_decide_eq_false hg105)) | (exact (bneE hg105 (hr37.det2 hr28)).elim) | (exact absurd (hr37.det2 hr28) hp105) | (exact absurd (hr37.det2 hr28) (of_decide_eq_false hg105)) | (exact (bneE hg105 (hr37.det3 hr28)).elim) | (exact absurd (hr37.det3 hr28) hp105) | (exact absurd (hr37.det3 hr28) (of_decide_eq_false hg105)) | (exact (tfX hg105).elim) | (exact (decF hg105).elim) | (exfalso; omega)
                          · have hp105 := of_decide_eq_false hg105
                            refine W_skip ?_
                            refine thenE_n ?_
                            refine W_seq ?_
                            refine W_region ?_
                            refine WL_q rfl (ev_assign rfl) ?_
                            refine WL_nil ?_
                            refine thenE_n ?_
                            refine W_ret ?_
                            refine ret1 rfl rfl ?_
                            first | (exact ⟨rfl, hE⟩) | (exact (bneE hg105 (hr86.det1 hr28)).elim) | (exact absurd (hr86.det1 hr28) hp105) | (exact absurd (hr86.det1 hr28) (of_decide_eq_false hg105)) | (exact (bneE hg105 (hr86.det2 hr28)).elim) | (exact absurd (hr86.det2 hr28) hp105) | (exact absurd (hr86.det2 hr28) (of_decide_eq_false hg105)) | (exact (bneE hg105 (hr86.det3 hr28)).elim) | (exact absurd (hr86.det3 hr28) hp105) | (exact absurd (hr86.det3 hr28) (of_decide_eq_false hg105)) | (exact (bneE hg105 (hr37.det1 hr28)).elim) | (exact absurd (hr37.det1 hr28) hp105) | (exact absurd (hr37.det1 hr28) (of_decide_eq_false hg105)) | (exact (bneE hg105 (hr37.det2 hr28)).elim) | (exact absurd (hr37.det2 hr28) hp105) | (exact absurd (hr37.det2 hr28) (of_decide_eq_false hg105)) | (exact (bneE hg105 (hr37.det3 hr28)).elim) | (exact absurd (hr37.det3 hr28) hp105) | (exact absurd (hr37.det3 hr28) (of_decide_eq_false hg105)) | (exact (tfX hg105).elim) | (exact (decF hg105).elim) | (exfalso; omega)

set_option maxRecDepth 100000 in
theorem sShellSizes_spec {loA hiA : Nat} (nA : NA) (A : Net) (v : Int) (w : World) (hA : IsNet loA hiA w nA A) (hhiA : hiA ≤ w.heap.size) (hnA : totN A ≤ 1048576) :
    Fn Try.prog 26 #[netV nA A, VI v] w (fun o9 w' => ∃ a' c' ys q, o9 = .tuple #[.slice a' ys.length c', VB q] ∧ RV [] (opt (NN A v) (shl (bfs A.ends v))) ys q ∧ Ints 0 w'.heap.size w' a' c' ys ∧ ys.length ≤ 1048576 ∧ Ext w w') := by
  have hqA := totL_len A.ends
  have hmA : totL A.ends + A.ids.length + A.inputs.length ≤ 1048576 := hnA
  have hE := Ext.refl w
  refine Fn_of Try.func26 rfl rfl (by kernel_rfl) rfl ?_
  refine W_seq ?_
  refine W_region ?_
  refine WL_m rfl (ev_box rfl) ?_
  rintro _ w2 ⟨rfl, hN2⟩
  have hz2 := hN2.size
  replace hE := hE.trans hN2.ext
  replace hA := hA.ext hN2.ext
  have hB2 : Blk w2 _ _ [_, _, _] := hN2.blk
  refine WL_q rfl (ev_assign rfl) ?_
  refine WL_q rfl (ev_assign rfl) ?_
  refine WL_nil ?_
  refine thenE_n ?_
  refine W_seq ?_
  refine W_seq ?_
  refine W_region ?_
  refine WL_q rfl (ev_loads st31 sz31 rfl (cellsB hB2) rfl) ?_
  refine WL_q rfl (ev_move rfl) ?_
  refine WL_m rfl (ev_call rfl (neNode_spec _ A _ _ hA (by omega) (by omega))) ?_
  rintro _ w12 ⟨b12, rfl, hb12, hE12⟩
  have hz12 := hE12.size
  replace hE := hE.trans hE12
  replace hA := hA.ext hE12
  replace hB2 := hB2.ext hE12
  refine WL_q rfl (ev_not rfl) ?_
  refine WL_nil ?_
  refine thenE_n ?_
  refine W_cond rfl (fun hg13 => ?_) (fun hg13 => ?_)
  · have hg12 := not_true hg13
    have hp12 := ttN hb12 hg12
    refine W_seq ?_
    refine W_region ?_
    refine WL_q rfl (ev_assign rfl) ?_
    refine WL_q rfl (ev_assign rfl) ?_
    refine WL_nil ?_
    refine thenE_n ?_
    refine W_ret ?_
    refine thenE_r ?_
    refine ret2 rfl rfl rfl ?_
    first | (exact ⟨none, 0, [], _, rfl, .no (fun h => hp12 h), Ints.nil, by simp, hE⟩) | (have hi9 : i = (bfs A.ends v).length := (by omega); subst hi9; exact ⟨_, (mmax (bfs A.ends v) + 1).toNat, shlN (mmax (bfs A.ends v) + 1).toNat (bfs A.ends v) (bfs A.ends v).length, true, by rw [hsl], .yes hp12 rfl, (own_i (own_of_blk (lo := 0) hBk (by omega) (by rw [List.length_map, hsl, Nat.mul_one]) (by omega))).mono (Nat.zero_le _) (Nat.le_refl _), by omega, hE⟩)
  · have hg12 := not_false hg13
    have hp12 := hb12.1 hg12
    refine W_skip ?_
    refine thenE_n ?_
    refine W_seq ?_
    refine W_region ?_
    refine WL_q rfl (ev_loads st31 sz31 rfl (cellsB hB2) rfl) ?_
    refine WL_q rfl (ev_move rfl) ?_
    have hk := hp12.1.endsOk
    have hv1 := hp12.2.1
    have hv2 := hp12.2.2
    have hl0 := bfs_len hk hv1 hv2
    have hnd := hp12.1.nodes
    refine WL_m rfl (ev_call rfl (meFrom_spec _ A _ _ hA (by omega) (by omega) (by assumption) (by omega))) ?_
    rintro _ w16 ⟨a16, c16, rfl, hO16, hE16⟩
    have hz16 := hE16.size
    replace hE := hE.trans hE16
    replace hA := hA.ext hE16
    replace hB2 := hB2.ext hE16
    have hI16 := own_i hO16
    refine WL_q rfl (ev_assign rfl) ?_
    refine WL_nil ?_
    refine thenE_n ?_
    refine W_seq ?_
    refine W_region ?_
    refine WL_q rfl (ev_move rfl) ?_
    refine WL_m rfl (ev_call rfl (meMost_len hl0 hI16 (by omega))) ?_
    rintro _ w18 ⟨rfl, hE18⟩
    have hz18 := hE18.size
    replace hE := hE.trans hE18
    replace hA := hA.ext hE18
    replace hB2 := hB2.ext hE18
    replace hI16 := hI16.ext hE18
    have hmr := mmax_rng (xs := bfs A.ends v) (m := 40) (by omega) (fun d hd => by have := bfs_rng hk hv1 hv2 d hd; omega)
    refine WL_q rfl (ev_add rfl rfl (by omega)) ?_
    refine WL_m rfl (ev_make Try.underlying23 el3 rfl rfl rfl (by omega) (by omega) (by omega)) ?_
    rintro _ w20 ⟨rfl, hN20⟩
    have hz20 := hN20.size
    replace hE := hE.trans hN20.ext
    replace hA := hA.ext hN20.ext
    replace hB2 := hB2.ext hN20.ext
    replace hI16 := hI16.ext hN20.ext
    have hB20 := hN20.blk
    refine WL_q rfl (ev_assign rfl) ?_
    refine WL_nil ?_
    refine thenE_n ?_
    refine W_seq ?_
    refine W_seq ?_
    refine W_region ?_
    refine WL_q rfl (ev_move rfl) ?_
    refine WL_q rfl (ev_len Try.underlying23 rfl) ?_
    refine WL_q rfl (ev_move rfl) ?_
    refine WL_nil ?_
    refine thenE_n ?_
    refine W_block ?_
    refine W_loopC (G := Nat) [(7, _), (21, _), (22, _)] ((Subs.c rfl (Subs.c rfl (Subs.c rfl Subs.n)))) (fun i => [(23, VI (i : Int))]) (fun i w' => KX (w18.heap.size) w20 w' ∧ i ≤ A.ends.length ∧ Blk w' w18.heap.size 3 ((shlN (mmax (bfs A.ends v) + 1).toNat (bfs A.ends v) i).map VI)) (fun i => A.ends.length - i) 0 ((Subs.c (lkI rfl (by omega)) Subs.n)) (⟨KX.refl _ _, ⟨Nat.zero_le _, by rw [shlN_zero, List.map_replicate]; exact hB20⟩⟩) ?_
    rintro i wL0 ⟨hRL0, hi', hBk⟩
    have hzL0 := hRL0.size
    replace hA := hA.kx hRL0 (by omega)
    replace hB2 := hB2.kx hRL0 (by omega)
    replace hI16 := hI16.kx hRL0 (by omega)
    replace hE := hE.kx hRL0 (by omega)
    have hsl := shlN_len (mmax (bfs A.ends v) + 1).toNat (bfs A.ends v) i
    refine W_seq ?_
    refine W_region ?_
    refine WL_q rfl (ev_lss rfl rfl) ?_
    refine WL_nil ?_
    refine thenE_n ?_
    refine W_seq ?_
    refine W_cond rfl (fun hg24 => ?_) (fun hg24 => ?_)
    · have hp24 := of_decide_eq_true hg24
      refine W_skip ?_
      refine thenE_n ?_
      refine W_seq ?_
      refine W_block ?_
      refine W_seq ?_
      refine W_region ?_
      have hlt : i < (bfs A.ends v).length := by omega
      have hgt := bfs_rng hk hv1 hv2 _ (List.getElem_mem hlt)
      have hmx := mmax_ge hlt
      refine WL_q rfl (ev_indexAddr Try.underlying23 sz3 rfl rfl (hI16.isSome (by omega)) (by omega) (by omega)) ?_
      refine WL_q rfl (ev_load one3 rfl (hI16.cell (i := i) (by omega))) ?_
      refine WL_q rfl (ev_assign rfl) ?_
      refine WL_nil ?_
      refine thenE_n ?_
      refine W_seq ?_
      refine W_region ?_
      refine WL_q rfl (ev_move rfl) ?_
      refine WL_q rfl (ev_geq rfl rfl) ?_
      refine WL_nil ?_
      refine thenE_n ?_
      refine W_cond rfl (fun hg28 => ?_) (fun hg28 => ?_)
      · have hp28 := of_decide_eq_true hg28
        refine W_region ?_
        refine WL_q rfl (ev_move rfl) ?_
        refine WL_q rfl (ev_move rfl) ?_
        refine WL_q rfl (ev_indexAddr Try.underlying23 sz3 rfl rfl rfl (by omega) (by omega)) ?_
        refine WL_q rfl (ev_load one3 rfl (icell hBk (i := ((bfs A.ends v)[i]).toNat) (by omega) (by omega))) ?_
        refine WL_q rfl (ev_add rfl rfl (by have := shlN_at (n := (mmax (bfs A.ends v) + 1).toNat) (ds := bfs A.ends v) (i := i) (j := (bfs A.ends v)[i].toNat) (by omega) (by omega); omega)) ?_
        refine WL_q rfl (ev_indexAddr Try.underlying23 sz3 rfl rfl rfl (by omega) (by omega)) ?_
        refine WL_s (ev_store sz3 rfl rfl rfl hBk (by simp; omega)) ?_
        rintro _ w9_6 hS9_6
        have hz9_6 := hS9_6.size
        replace hE := hE.sto hS9_6 (by omega)
        replace hRL0 := hRL0.sto hS9_6 (by omega)
        replace hA := hA.sto hS9_6 (by omega)
        replace hB2 := hB2.sto hS9_6 (by omega)
        replace hI16 := hI16.sto hS9_6 (by omega)
        replace hBk := hS9_6.blk
        replace hBk := iset (i := ((bfs A.ends v)[i]).toNat) (by omega) hBk
        refine WL_nil ?_
        refine blockE_n ?_
        refine thenE_n ?_
        refine W_region ?_
        refine WL_q rfl (ev_add rfl rfl (by omega)) ?_
        refine WL_q rfl (ev_move rfl) ?_
        refine WL_nil ?_
        refine thenE_n ?_
        rw [shlN_yes hlt hp28 (h2 := by omega)] at hBk
        exact ⟨i + 1, (Subs.c rfl (Subs.c rfl (Subs.c rfl Subs.n))), (Subs.c (lkI rfl (by omega)) Subs.n), ⟨hRL0, ⟨by omega, hBk⟩⟩, by first | omega | (dsimp only; omega)⟩
      · have hp28 := of_decide_eq_false hg28
        refine W_skip ?_
        refine blockE_n ?_
        refine thenE_n ?_
        refine W_region ?_
        refine WL_q rfl (ev_add rfl rfl (by omega)) ?_
        refine WL_q rfl (ev_move rfl) ?_
        refine WL_nil ?_
        refine thenE_n ?_
        rw [shlN_no hlt hp28] at hBk
        exact ⟨i + 1, (Subs.c rfl (Subs.c rfl (Subs.c rfl Subs.n))), (Subs.c (lkI rfl (by omega)) Subs.n), ⟨hRL0, ⟨by omega, hBk⟩⟩, by first | omega | (dsimp only; omega)⟩
    · have hp24 := of_decide_eq_false hg24
      refine W_exit ?_
      refine thenE_x ?_
      refine thenE_x ?_
      refine blockE_hit ?_
      refine thenE_n ?_
      refine W_seq ?_
      refine W_region ?_
      refine WL_q rfl (ev_move rfl) ?_
      refine WL_q rfl (ev_assign rfl) ?_
      refine WL_q rfl (ev_assign rfl) ?_
      refine WL_nil ?_
      refine thenE_n ?_
      refine W_ret ?_
      refine ret2 rfl rfl rfl ?_
      first | (exact ⟨none, 0, [], _, rfl, .no (fun h => hp12 h), Ints.nil, by simp, hE⟩) | (have hi9 : i = (bfs A.ends v).length := (by omega); subst hi9; exact ⟨_, (mmax (bfs A.ends v) + 1).toNat, shlN (mmax (bfs A.ends v) + 1).toNat (bfs A.ends v) (bfs A.ends v).length, true, by rw [hsl], .yes hp12 rfl, (own_i (own_of_blk (lo := 0) hBk (by omega) (by rw [List.length_map, hsl, Nat.mul_one]) (by omega))).mono (Nat.zero_le _) (Nat.le_refl _), by omega, hE⟩)

set_option maxRecDepth 100000 in
theorem ShellSizes_spec {loA hiA : Nat} (nA : NA) (A : Net) (v : Int) (w : World) (hA : IsNet loA hiA w nA A) (hhiA : hiA ≤ w.heap.size) (hnA : totN A ≤ 1048576) :
    Fn Try.prog 27 #[netV nA A, VI v] w (fun o9 w' => ∃ a' c' ys q, o9 = .tuple #[.slice a' ys.length c', VB q] ∧ RV [] (opt (NN A v) (shl (bfs A.ends v))) ys q ∧ OwnH w.heap.size w'.heap.size 0 0 w' 3 1 a' ys.length c' (ys.map VI) ∧ ys.length ≤ 1048576 ∧ Ext w w') := by
  have hqA := totL_len A.ends
  have hmA : totL A.ends + A.ids.length + A.inputs.length ≤ 1048576 := hnA
  have hE := Ext.refl w
  refine Fn_of Try.func27 rfl rfl (by kernel_rfl) rfl ?_
  refine W_seq ?_
  refine W_region ?_
  refine WL_m rfl (ev_box rfl) ?_
  rintro _ w2 ⟨rfl, hN2⟩
  have hz2 := hN2.size
  replace hE := hE.trans hN2.ext
  replace hA := hA.ext hN2.ext
  have hB2 : Blk w2 _ _ [_, _, _] := hN2.blk
  refine WL_q rfl (ev_assign rfl) ?_
  refine WL_q rfl (ev_assign rfl) ?_
  refine WL_nil ?_
  refine thenE_n ?_
  refine W_seq ?_
  refine W_seq ?_
  refine W_region ?_
  refine WL_q rfl (ev_loads st31 sz31 rfl (cellsB hB2) rfl) ?_
  refine WL_m rfl (ev_call rfl (IsNetwork_spec _ A _ hA (by omega) (by omega))) ?_
  rintro _ w11 ⟨b11, rfl, hb11, hE11⟩
  have hz11 := hE11.size
  replace hE := hE.trans hE11
  replace hA := hA.ext hE11
  replace hB2 := hB2.ext hE11
  refine WL_q rfl (ev_not rfl) ?_
  refine WL_q rfl (ev_move rfl) ?_
  refine WL_splitv (t := 13) rfl (fun hg12 => ?_) (fun hg12 => ?_)
  · have hg11 := not_true hg12
    have hp11 := ttN hb11 hg11
    refine WL_no rfl rfl hg12 rfl ?_
    refine WL_no rfl rfl hg12 rfl ?_
    refine WL_no rfl rfl hg12 rfl ?_
    refine WL_no rfl rfl hg12 rfl ?_
    refine WL_q rfl (ev_pick_t rfl hg12 rfl) ?_
    refine WL_nil ?_
    refine thenE_n ?_
    refine W_cond_t rfl ?_
    refine W_seq ?_
    refine W_region ?_
    refine WL_q rfl (ev_assign rfl) ?_
    refine WL_q rfl (ev_assign rfl) ?_
    refine WL_nil ?_
    refine thenE_n ?_
    refine W_ret ?_
    refine thenE_r ?_
    refine ret2 rfl rfl rfl ?_
    first | (exact ⟨none, 0, [], _, rfl, .no (fun h => hp11 h.1), OwnH.nil, by simp, hE⟩) | (exact ⟨none, 0, [], _, rfl, .no (fun h => hp16 h.2), OwnH.nil, by simp, hE⟩) | (have hi9 : i = (bfs A.ends v).length := (by omega); subst hi9; exact ⟨_, (lmax (bfs A.ends v) + 1).toNat, shlN (lmax (bfs A.ends v) + 1).toNat (bfs A.ends v) (bfs A.ends v).length, true, by rw [hsl], .yes ⟨hp11, hp16⟩ (by unfold shl; rw [hme]), (by rw [hsl]; exact (own_of_blk hBk (by omega) (by rw [List.length_map, hsl, Nat.mul_one]) (by omega)).h.up (by omega) (Nat.le_refl _)), by omega, hE⟩)
  · have hg11 := not_false hg12
    have hp11 := hb11.1 hg11
    refine WL_qg rfl rfl hg12 rfl (ev_loads st31 sz31 rfl (cellsB hB2) rfl) ?_
    refine WL_qg rfl rfl hg12 rfl (ev_move rfl) ?_
    refine WL_mg rfl rfl hg12 rfl (ev_call rfl (hasNode_spec _ A _ _ (by omega))) ?_
    rintro _ w16 ⟨b16, rfl, hb16, hE16⟩
    have hz16 := hE16.size
    replace hE := hE.trans hE16
    replace hA := hA.ext hE16
    replace hB2 := hB2.ext hE16
    refine WL_qg rfl rfl hg12 rfl (ev_not rfl) ?_
    refine WL_q rfl (ev_pick_f rfl hg12 rfl) ?_
    refine WL_nil ?_
    refine thenE_n ?_
    refine W_cond rfl (fun hg17 => ?_) (fun hg17 => ?_)
    · have hg16 := not_true hg17
      have hp16 := ttN hb16 hg16
      refine W_seq ?_
      refine W_region ?_
      refine WL_q rfl (ev_assign rfl) ?_
      refine WL_q rfl (ev_assign rfl) ?_
      refine WL_nil ?_
      refine thenE_n ?_
      refine W_ret ?_
      refine thenE_r ?_
      refine ret2 rfl rfl rfl ?_
      first | (exact ⟨none, 0, [], _, rfl, .no (fun h => hp11 h.1), OwnH.nil, by simp, hE⟩) | (exact ⟨none, 0, [], _, rfl, .no (fun h => hp16 h.2), OwnH.nil, by simp, hE⟩) | (have hi9 : i = (bfs A.ends v).length := (by omega); subst hi9; exact ⟨_, (lmax (bfs A.ends v) + 1).toNat, shlN (lmax (bfs A.ends v) + 1).toNat (bfs A.ends v) (bfs A.ends v).length, true, by rw [hsl], .yes ⟨hp11, hp16⟩ (by unfold shl; rw [hme]), (by rw [hsl]; exact (own_of_blk hBk (by omega) (by rw [List.length_map, hsl, Nat.mul_one]) (by omega)).h.up (by omega) (Nat.le_refl _)), by omega, hE⟩)
    · have hg16 := not_false hg17
      have hp16 := hb16.1 hg16
      refine W_skip ?_
      refine thenE_n ?_
      refine W_seq ?_
      refine W_region ?_
      refine WL_q rfl (ev_loads st31 sz31 rfl (cellsB hB2) rfl) ?_
      refine WL_q rfl (ev_move rfl) ?_
      have hk := hp11.endsOk
      have hv1 := hp16.1
      have hv2 := hp16.2
      have hl0 := bfs_len hk hv1 hv2
      have hnd := hp11.nodes
      refine WL_m rfl (ev_call rfl (dist_spec _ A _ _ hA (by omega) (by omega) (by assumption) (by omega))) ?_
      rintro _ w21 ⟨a21, c21, rfl, hO21, hE21⟩
      have hz21 := hE21.size
      replace hE := hE.trans hE21
      replace hA := hA.ext hE21
      replace hB2 := hB2.ext hE21
      have hI21 := own_i hO21
      refine WL_q rfl (ev_assign rfl) ?_
      refine WL_nil ?_
      refine thenE_n ?_
      refine W_seq ?_
      refine W_region ?_
      refine WL_q rfl (ev_move rfl) ?_
      refine WL_m rfl (ev_call rfl (Max_len hl0 hI21 (by omega) (by omega))) ?_
      rintro _ w23 ⟨rfl, hE23⟩
      have hz23 := hE23.size
      replace hE := hE.trans hE23
      replace hA := hA.ext hE23
      replace hB2 := hB2.ext hE23
      replace hI21 := hI21.ext hE23
      have hmr := mmax_rng (xs := bfs A.ends v) (m := 40) (by omega) (fun d hd => by have := bfs_rng hk hv1 hv2 d hd; omega)
      have hme := mmax_eq (bfs_ex' hk hv1 hv2)
      refine WL_q rfl (ev_add rfl rfl (by omega)) ?_
      refine WL_m rfl (ev_make Try.underlying23 el3 rfl rfl rfl (by omega) (by omega) (by omega)) ?_
      rintro _ w25 ⟨rfl, hN25⟩
      have hz25 := hN25.size
      replace hE := hE.trans hN25.ext
      replace hA := hA.ext hN25.ext
      replace hB2 := hB2.ext hN25.ext
      replace hI21 := hI21.ext hN25.ext
      have hB25 := hN25.blk
      refine WL_q rfl (ev_assign rfl) ?_
      refine WL_nil ?_
      refine thenE_n ?_
      refine W_seq ?_
      refine W_seq ?_
      refine W_region ?_
      refine WL_q rfl (ev_move rfl) ?_
      refine WL_q rfl (ev_len Try.underlying23 rfl) ?_
      refine WL_q rfl (ev_move rfl) ?_
      refine WL_nil ?_
      refine thenE_n ?_
      refine W_block ?_
      refine W_loopC (G := Nat) [(7, _), (26, _), (27, _)] ((Subs.c rfl (Subs.c rfl (Subs.c rfl Subs.n)))) (fun i => [(28, VI (i : Int))]) (fun i w' => KX (w23.heap.size) w25 w' ∧ i ≤ A.ends.length ∧ Blk w' w23.heap.size 3 ((shlN (lmax (bfs A.ends v) + 1).toNat (bfs A.ends v) i).map VI)) (fun i => A.ends.length - i) 0 ((Subs.c (lkI rfl (by omega)) Subs.n)) (⟨KX.refl _ _, ⟨Nat.zero_le _, by rw [shlN_zero, List.map_replicate]; exact hB25⟩⟩) ?_
      rintro i wL0 ⟨hRL0, hi', hBk⟩
      have hzL0 := hRL0.size
      replace hA := hA.kx hRL0 (by omega)
      replace hB2 := hB2.kx hRL0 (by omega)
      replace hI21 := hI21.kx hRL0 (by omega)
      replace hE := hE.kx hRL0 (by omega)
      have hsl := shlN_len (lmax (bfs A.ends v) + 1).toNat (bfs A.ends v) i
      refine W_seq ?_
      refine W_region ?_
      refine WL_q rfl (ev_lss rfl rfl) ?_
      refine WL_nil ?_
      refine thenE_n ?_
      refine W_seq ?_
      refine W_cond rfl (fun hg29 => ?_) (fun hg29 => ?_)
      · have hp29 := of_decide_eq_true hg29
        refine W_skip ?_
        refine thenE_n ?_
        refine W_seq ?_
        refine W_block ?_
        refine W_seq ?_
        refine W_region ?_
        have hlt : i < (bfs A.ends v).length := by omega
        have hgt := bfs_rng hk hv1 hv2 _ (List.getElem_mem hlt)
        have hmx := mmax_ge hlt
        refine WL_q rfl (ev_indexAddr Try.underlying23 sz3 rfl rfl (hI21.isSome (by omega)) (by omega) (by omega)) ?_
        refine WL_q rfl (ev_load one3 rfl (hI21.cell (i := i) (by omega))) ?_
        refine WL_q rfl (ev_assign rfl) ?_
        refine WL_nil ?_
        refine thenE_n ?_
        refine W_seq ?_
        refine W_region ?_
        refine WL_q rfl (ev_move rfl) ?_
        refine WL_q rfl (ev_geq rfl rfl) ?_
        refine WL_nil ?_
        refine thenE_n ?_
        refine W_cond rfl (fun hg33 => ?_) (fun hg33 => ?_)
        · have hp33 := of_decide_eq_true hg33
          refine W_region ?_
          refine WL_q rfl (ev_move rfl) ?_
          refine WL_q rfl (ev_move rfl) ?_
          refine WL_q rfl (ev_indexAddr Try.underlying23 sz3 rfl rfl rfl (by omega) (by omega)) ?_
          refine WL_q rfl (ev_load one3 rfl (icell hBk (i := ((bfs A.ends v)[i]).toNat) (by omega) (by omega))) ?_
          refine WL_q rfl (ev_add rfl rfl (by have := shlN_at (n := (lmax (bfs A.ends v) + 1).toNat) (ds := bfs A.ends v) (i := i) (j := (bfs A.ends v)[i].toNat) (by omega) (by omega); omega)) ?_
          refine WL_q rfl (ev_indexAddr Try.underlying23 sz3 rfl rfl rfl (by omega) (by omega)) ?_
          refine WL_s (ev_store sz3 rfl rfl rfl hBk (by simp; omega)) ?_
          rintro _ w9_6 hS9_6
          have hz9_6 := hS9_6.size
          replace hE := hE.sto hS9_6 (by omega)
          replace hRL0 := hRL0.sto hS9_6 (by omega)
          replace hA := hA.sto hS9_6 (by omega)
          replace hB2 := hB2.sto hS9_6 (by omega)
          replace hI21 := hI21.sto hS9_6 (by omega)
          replace hBk := hS9_6.blk
          replace hBk := iset (i := ((bfs A.ends v)[i]).toNat) (by omega) hBk
          refine WL_nil ?_
          refine blockE_n ?_
          refine thenE_n ?_
          refine W_region ?_
          refine WL_q rfl (ev_add rfl rfl (by omega)) ?_
          refine WL_q rfl (ev_move rfl) ?_
          refine WL_nil ?_
          refine thenE_n ?_
          rw [shlN_yes hlt hp33 (h2 := by omega)] at hBk
          exact ⟨i + 1, (Subs.c rfl (Subs.c rfl (Subs.c rfl Subs.n))), (Subs.c (lkI rfl (by omega)) Subs.n), ⟨hRL0, ⟨by omega, hBk⟩⟩, by first | omega | (dsimp only; omega)⟩
        · have hp33 := of_decide_eq_false hg33
          refine W_skip ?_
          refine blockE_n ?_
          refine thenE_n ?_
          refine W_region ?_
          refine WL_q rfl (ev_add rfl rfl (by omega)) ?_
          refine WL_q rfl (ev_move rfl) ?_
          refine WL_nil ?_
          refine thenE_n ?_
          rw [shlN_no hlt hp33] at hBk
          exact ⟨i + 1, (Subs.c rfl (Subs.c rfl (Subs.c rfl Subs.n))), (Subs.c (lkI rfl (by omega)) Subs.n), ⟨hRL0, ⟨by omega, hBk⟩⟩, by first | omega | (dsimp only; omega)⟩
      · have hp29 := of_decide_eq_false hg29
        refine W_exit ?_
        refine thenE_x ?_
        refine thenE_x ?_
        refine blockE_hit ?_
        refine thenE_n ?_
        refine W_seq ?_
        refine W_region ?_
        refine WL_q rfl (ev_move rfl) ?_
        refine WL_q rfl (ev_assign rfl) ?_
        refine WL_q rfl (ev_assign rfl) ?_
        refine WL_nil ?_
        refine thenE_n ?_
        refine W_ret ?_
        refine ret2 rfl rfl rfl ?_
        first | (exact ⟨none, 0, [], _, rfl, .no (fun h => hp11 h.1), OwnH.nil, by simp, hE⟩) | (exact ⟨none, 0, [], _, rfl, .no (fun h => hp16 h.2), OwnH.nil, by simp, hE⟩) | (have hi9 : i = (bfs A.ends v).length := (by omega); subst hi9; exact ⟨_, (lmax (bfs A.ends v) + 1).toNat, shlN (lmax (bfs A.ends v) + 1).toNat (bfs A.ends v) (bfs A.ends v).length, true, by rw [hsl], .yes ⟨hp11, hp16⟩ (by unfold shl; rw [hme]), (by rw [hsl]; exact (own_of_blk hBk (by omega) (by rw [List.length_map, hsl, Nat.mul_one]) (by omega)).h.up (by omega) (Nat.le_refl _)), by omega, hE⟩)

set_option maxRecDepth 100000 in
theorem law_ShellSizes (nA : NA) (A : Net) (v : Int) (w : World) (hA : IsNet 0 w.heap.size w nA A) (hsA : SmN A) (hiv : I64 v) :
    Fn Try.prog 5 #[netV nA A, VI v] w (fun v w' => v = VB true ∧ Ext w w') := by
  have hE := Ext.refl w
  refine Fn_of Try.func5 rfl rfl (by kernel_rfl) rfl ?_
  refine W_seq ?_
  refine W_region ?_
  refine WL_m rfl (ev_box rfl) ?_
  rintro _ w2 ⟨rfl, hN2⟩
  have hz2 := hN2.size
  replace hE := hE.trans hN2.ext
  replace hA := hA.ext hN2.ext
  have hB2 : Blk w2 _ _ [_, _, _] := hN2.blk
  refine WL_q rfl (ev_assign rfl) ?_
  refine WL_nil ?_
  refine thenE_n ?_
  refine W_seq ?_
  refine W_region ?_
  refine WL_q rfl (ev_assign rfl) ?_
  refine WL_nil ?_
  refine thenE_n ?_
  refine W_seq ?_
  refine W_region ?_
  refine WL_q rfl (ev_loads st25 sz25 rfl (cellsB hB2) rfl) ?_
  refine WL_q rfl (ev_move rfl) ?_
  refine WL_m rfl (ev_call rfl (szNetwork_spec _ A _ _ hA (by omega) hsA)) ?_
  rintro _ w18 ⟨r18, rfl, hE18, hr18⟩
  have hz18 := hE18.size
  replace hE := hE.trans hE18
  replace hA := hA.ext hE18
  replace hB2 := hB2.ext hE18
  refine WL_q rfl (ev_assign rfl) ?_
  refine WL_nil ?_
  refine thenE_n ?_
  refine W_seq ?_
  refine W_seq ?_
  refine W_region ?_
  refine WL_q rfl (ev_move rfl) ?_
  refine WL_q rfl (ev_lss rfl rfl) ?_
  refine WL_nil ?_
  refine thenE_n ?_
  refine W_cond rfl (fun hg20 => ?_) (fun hg20 => ?_)
  · have hp20 := of_decide_eq_true hg20
    refine W_seq ?_
    refine W_region ?_
    refine WL_q rfl (ev_assign rfl) ?_
    refine WL_nil ?_
    refine thenE_n ?_
    refine W_ret ?_
    refine thenE_r ?_
    refine ret1 rfl rfl ?_
    first | (exact ⟨rfl, hE⟩) | (exact (tfX hg20).elim) | (exact (decF hg20).elim) | (exfalso; omega)
  · have hp20 := of_decide_eq_false hg20
    refine W_skip ?_
    refine thenE_n ?_
    refine W_seq ?_
    refine W_region ?_
    refine WL_q rfl (ev_loads st25 sz25 rfl (cellsB hB2) rfl) ?_
    refine WL_m rfl (ev_call rfl (toNetwork_spec _ A _ hA (by omega) (by omega))) ?_
    rintro _ w23 ⟨h23, rfl, hF23, hE23⟩
    have hz23 := hE23.size
    replace hE := hE.trans hE23
    replace hA := hA.ext hE23
    replace hB2 := hB2.ext hE23
    have hN23 := hF23.is
    refine WL_q rfl (ev_move rfl) ?_
    refine WL_m rfl (ev_call rfl (sShellSizes_spec _ A _ _ hN23 (by omega) (by omega))) ?_
    rintro _ w25 ⟨a25, c25, y25, q25, rfl, hr25, hx25, hl25, hE25⟩
    have hz25 := hE25.size
    replace hE := hE.trans hE25
    replace hA := hA.ext hE25
    replace hB2 := hB2.ext hE25
    replace hF23 := hF23.ext hE25
    replace hN23 := hN23.ext hE25
    refine WL_q rfl (ev_move rfl) ?_
    refine WL_q rfl (ev_extract rfl rfl) ?_
    refine WL_q rfl (ev_extract rfl rfl) ?_
    refine WL_q rfl (ev_assign rfl) ?_
    refine WL_q rfl (ev_assign rfl) ?_
    refine WL_nil ?_
    refine thenE_n ?_
    refine W_seq ?_
    refine W_region ?_
    refine WL_q rfl (ev_loads st25 sz25 rfl (cellsB hB2) rfl) ?_
    refine WL_m rfl (ev_call rfl (toNetwork_spec _ A _ hA (by omega) (by omega))) ?_
    rintro _ w29 ⟨h29, rfl, hF29, hE29⟩
    have hz29 := hE29.size
    replace hE := hE.trans hE29
    replace hA := hA.ext hE29
    replace hB2 := hB2.ext hE29
    replace hF23 := hF23.ext hE29
    replace hN23 := hN23.ext hE29
    replace hx25 := hx25.ext hE29
    have hN29 := hF29.is
    refine WL_m rfl (ev_alloc zr31) ?_
    rintro _ w8 ⟨rfl, hN8⟩
    have hz8 := hN8.size
    replace hE := hE.trans hN8.ext
    replace hA := hA.ext hN8.ext
    replace hB2 := hB2.ext hN8.ext
    replace hF23 := hF23.ext hN8.ext
    replace hN23 := hN23.ext hN8.ext
    replace hx25 := hx25.ext hN8.ext
    replace hF29 := hF29.ext hN8.ext
    replace hN29 := hN29.ext hN8.ext
    have hB8 : Blk w8 _ _ [_, _, _] := hN8.blk
    refine WL_s (ev_stores sz31 rfl rfl rfl (by simp [Value.oneCell']) hB8 (by simp)) ?_
    rintro _ w6_3 hS6_3
    have hz6_3 := hS6_3.size
    replace hE := hE.sto hS6_3 (by omega)
    replace hA := hA.sto hS6_3 (by omega)
    replace hB2 := hB2.sto hS6_3 (by omega)
    replace hF23 := hF23.sto hS6_3 (by omega)
    replace hN23 := hN23.sto hS6_3 (by omega)
    replace hx25 := hx25.sto hS6_3 (by omega)
    replace hF29 := hF29.sto hS6_3 (by omega)
    replace hN29 := hN29.sto hS6_3 (by omega)
    replace hB8 : Blk w6_3 _ _ [_, _, _] := hS6_3.blk
    refine WL_nil ?_
    refine thenE_n ?_
    refine W_seq ?_
    refine W_region ?_
    refine WL_q rfl (ev_loads st31 sz31 rfl (cellsB hB8) rfl) ?_
    refine WL_q rfl (ev_move rfl) ?_
    refine WL_m rfl (ev_call rfl (ShellSizes_spec _ A _ _ hN29 (by omega) (by omega))) ?_
    rintro _ w33 ⟨a33, c33, y33, q33, rfl, hr33, hO33, hl33, hE33⟩
    have hz33 := hE33.size
    replace hE := hE.trans hE33
    replace hA := hA.ext hE33
    replace hB2 := hB2.ext hE33
    replace hF23 := hF23.ext hE33
    replace hN23 := hN23.ext hE33
    replace hx25 := hx25.ext hE33
    replace hF29 := hF29.ext hE33
    replace hN29 := hN29.ext hE33
    replace hB8 := hB8.ext hE33
    refine WL_q rfl (ev_move rfl) ?_
    refine WL_q rfl (ev_extract rfl rfl) ?_
    refine WL_q rfl (ev_extract rfl rfl) ?_
    refine WL_q rfl (ev_assign rfl) ?_
    refine WL_q rfl (ev_assign rfl) ?_
    refine WL_nil ?_
    refine thenE_n ?_
    refine W_seq ?_
    refine W_seq ?_
    refine W_region ?_
    refine WL_q rfl (ev_move rfl) ?_
    refine WL_q rfl (ev_move rfl) ?_
    refine WL_m rfl (ev_call rfl (eqIntS_spec _ _ _ _ y33 y25 _ (ownt_i hO33) hx25 (by omega))) ?_
    rintro _ w38 ⟨rfl, hE38⟩
    have hz38 := hE38.size
    replace hE := hE.trans hE38
    replace hA := hA.ext hE38
    replace hB2 := hB2.ext hE38
    replace hF23 := hF23.ext hE38
    replace hN23 := hN23.ext hE38
    replace hx25 := hx25.ext hE38
    replace hF29 := hF29.ext hE38
    replace hN29 := hN29.ext hE38
    replace hB8 := hB8.ext hE38
    replace hO33 := hO33.ext hE38
    refine WL_q rfl (ev_not rfl) ?_
    refine WL_q rfl (ev_move rfl) ?_
    refine WL_splitv (t := 40) rfl (fun hg39 => ?_) (fun hg39 => ?_)
    · have hg38 := not_true hg39
      refine WL_no rfl rfl hg39 rfl ?_
      refine WL_no rfl rfl hg39 rfl ?_
      refine WL_no rfl rfl hg39 rfl ?_
      refine WL_q rfl (ev_pick_t rfl hg39 rfl) ?_
      refine WL_nil ?_
      refine thenE_n ?_
      refine W_cond_t rfl ?_
      refine W_seq ?_
      refine W_region ?_
      refine WL_q rfl (ev_assign rfl) ?_
      refine WL_nil ?_
      refine thenE_n ?_
      refine W_ret ?_
      refine thenE_r ?_
      refine ret1 rfl rfl ?_
      first | (exact ⟨rfl, hE⟩) | (exact (bneE hg38 (hr33.det1 hr25)).elim) | (exact absurd (hr33.det1 hr25) hp38) | (exact absurd (hr33.det1 hr25) (of_decide_eq_false hg38)) | (exact (bneE hg38 (hr33.det2 hr25)).elim) | (exact absurd (hr33.det2 hr25) hp38) | (exact absurd (hr33.det2 hr25) (of_decide_eq_false hg38)) | (exact (bneE hg38 (hr33.det3 hr25)).elim) | (exact absurd (hr33.det3 hr25) hp38) | (exact absurd (hr33.det3 hr25) (of_decide_eq_false hg38)) | (exact (tfX hg38).elim) | (exact (decF hg38).elim) | (exfalso; omega)
    · have hg38 := not_false hg39
      refine WL_qg rfl rfl hg39 rfl (ev_move rfl) ?_
      refine WL_qg rfl rfl hg39 rfl (ev_move rfl) ?_
      refine WL_qg rfl rfl hg39 rfl (ev_neq_b Try.underlying4 rfl rfl) ?_
      refine WL_q rfl (ev_pick_f rfl hg39 rfl) ?_
      refine WL_nil ?_
      refine thenE_n ?_
      refine W_cond rfl (fun hg43 => ?_) (fun hg43 => ?_)
      · refine W_seq ?_
        refine W_region ?_
        refine WL_q rfl (ev_assign rfl) ?_
        refine WL_nil ?_
        refine thenE_n ?_
        refine W_ret ?_
        refine thenE_r ?_
        refine ret1 rfl rfl ?_
        first | (exact ⟨rfl, hE⟩) | (exact (bneE hg43 (hr33.det1 hr25)).elim) | (exact absurd (hr33.det1 hr25) hp43) | (exact absurd (hr33.det1 hr25) (of_decide_eq_false hg43)) | (exact (bneE hg43 (hr33.det2 hr25)).elim) | (exact absurd (hr33.det2 hr25) hp43) | (exact absurd (hr33.det2 hr25) (of_decide_eq_false hg43)) | (exact (bneE hg43 (hr33.det3 hr25)).elim) | (exact absurd (hr33.det3 hr25) hp43) | (exact absurd (hr33.det3 hr25) (of_decide_eq_false hg43)) | (exact (tfX hg43).elim) | (exact (decF hg43).elim) | (exfalso; omega)
      · refine W_skip ?_
        refine thenE_n ?_
        refine W_seq ?_
        refine W_seq ?_
        refine W_drawE [(0, true), (1, true), (2, false), (3, false), (4, true)] mixed (by kernel_rfl) rfl (by kernel_rfl) ?_
        intro wd10 hEd10 hzd10
        replace hE := hE.trans hEd10
        replace hA := hA.ext hEd10
        replace hB2 := hB2.ext hEd10
        replace hF23 := hF23.ext hEd10
        replace hN23 := hN23.ext hEd10
        replace hx25 := hx25.ext hEd10
        replace hF29 := hF29.ext hEd10
        replace hN29 := hN29.ext hEd10
        replace hB8 := hB8.ext hEd10
        replace hO33 := hO33.ext hEd10
        have hDd10 := Ext.refl wd10
        refine PW_q rfl rfl (fun wq hq => ev_loads st31 sz31 rfl (cellsB (hq.blk hB8)) rfl) ?_
        refine PW_q rfl rfl (fun wq hq => ev_loads st25 sz25 rfl (cellsB (hq.blk hB2)) rfl) ?_
        refine PW_m rfl rfl (ev_call rfl (toNetwork_spec _ A _ hA (by omega) (by omega))) ?_
        rintro _ w47 ⟨h47, rfl, hF47, hE47⟩
        have hz47 := hE47.size
        replace hE := hE.trans hE47
        replace hDd10 := hDd10.trans hE47
        have hN47 := hF47.is
        refine ⟨hDd10, ?_⟩
        have hA_3 := hA.ext hDd10
        have hB2_3 := hB2.ext hDd10
        have hF23_3 := hF23.ext hDd10
        have hN23_3 := hN23.ext hDd10
        have hx25_3 := hx25.ext hDd10
        have hF29_3 := hF29.ext hDd10
        have hN29_3 := hN29.ext hDd10
        have hB8_3 := hB8.ext hDd10
        have hO33_3 := hO33.ext hDd10
        refine PW_m rfl rfl (ev_call rfl (eqNetwork_spec _ _ A _ hN29_3 hN47 (by omega))) ?_
        rintro _ w48 ⟨rfl, hE48⟩
        have hz48 := hE48.size
        replace hE := hE.trans hE48
        replace hDd10 := hDd10.trans hE48
        replace hF47 := hF47.ext hE48
        replace hN47 := hN47.ext hE48
        refine ⟨hDd10, ?_⟩
        refine PW_q rfl rfl (fun wq hq => ev_not rfl) ?_
        replace hA := hA.ext hDd10
        replace hB2 := hB2.ext hDd10
        replace hF23 := hF23.ext hDd10
        replace hN23 := hN23.ext hDd10
        replace hx25 := hx25.ext hDd10
        replace hF29 := hF29.ext hDd10
        replace hN29 := hN29.ext hDd10
        replace hB8 := hB8.ext hDd10
        replace hO33 := hO33.ext hDd10
        refine PW_nil ?_
        refine thenE_n ?_
        refine W_cond rfl (fun hg49 => ?_) (fun hg49 => ?_)
        · have hg48 := not_true hg49
          refine W_seq ?_
          refine W_region ?_
          refine WL_q rfl (ev_assign rfl) ?_
          refine WL_nil ?_
          refine thenE_n ?_
          refine W_ret ?_
          refine thenE_r ?_
          refine ret1 rfl rfl ?_
          first | (exact ⟨rfl, hE⟩) | (exact (bneE hg48 (hr33.det1 hr25)).elim) | (exact absurd (hr33.det1 hr25) hp48) | (exact absurd (hr33.det1 hr25) (of_decide_eq_false hg48)) | (exact (bneE hg48 (hr33.det2 hr25)).elim) | (exact absurd (hr33.det2 hr25) hp48) | (exact absurd (hr33.det2 hr25) (of_decide_eq_false hg48)) | (exact (bneE hg48 (hr33.det3 hr25)).elim) | (exact absurd (hr33.det3 hr25) hp48) | (exact absurd (hr33.det3 hr25) (of_decide_eq_false hg48)) | (exact (tfX hg48).elim) | (exact (decF hg48).elim) | (exfalso; omega)
        · have hg48 := not_false hg49
          refine W_skip ?_
          refine thenE_n ?_
          refine W_seq ?_
          refine W_region ?_
          refine WL_q rfl (ev_assign rfl) ?_
          refine WL_nil ?_
          refine thenE_n ?_
          refine W_seq ?_
          refine W_region ?_
          refine WL_q rfl (ev_loads st31 sz31 rfl (cellsB hB8) rfl) ?_
          refine WL_q rfl (ev_move rfl) ?_
          refine WL_m rfl (ev_call rfl (markNetwork_spec _ A _ _ hF29 (by omega) (by omega) (by omega))) ?_
          rintro _ w52 ⟨r52, rfl, hr52, hK52⟩
          have hz52 := hK52.size
          replace hE := hE.mrk hK52 (by omega)
          replace hA := hA.mrk hK52 (by omega)
          replace hB2 := hB2.mrk hK52 (by omega)
          replace hF23 := hF23.mrk hK52 (by omega)
          replace hN23 := hN23.mrk hK52 (by omega)
          replace hx25 := hx25.mrk hK52 (by omega)
          replace hB8 := hB8.mrk hK52 (by omega)
          replace hO33 := hO33.mrk hK52 (by omega)
          replace hF47 := hF47.mrk hK52 (by omega)
          replace hN47 := hN47.mrk hK52 (by omega)
          refine WL_q rfl (ev_assign rfl) ?_
          refine WL_nil ?_
          refine thenE_n ?_
          refine W_seq ?_
          refine W_seq ?_
          refine W_region ?_
          refine WL_q rfl (ev_move rfl) ?_
          refine WL_q rfl (ev_lss rfl rfl) ?_
          refine WL_q rfl (ev_move rfl) ?_
          refine WL_splitv (t := 55) rfl (fun hg54 => ?_) (fun hg54 => ?_)
          · have hp54 := of_decide_eq_true hg54
            refine WL_no rfl rfl hg54 rfl ?_
            refine WL_no rfl rfl hg54 rfl ?_
            refine WL_no rfl rfl hg54 rfl ?_
            refine WL_no rfl rfl hg54 rfl ?_
            refine WL_q rfl (ev_pick_t rfl hg54 rfl) ?_
            refine WL_q rfl (ev_move rfl) ?_
            refine WL_no rfl rfl rfl rfl ?_
            refine WL_no rfl rfl rfl rfl ?_
            refine WL_no rfl rfl rfl rfl ?_
            refine WL_q rfl (ev_pick_t rfl rfl rfl) ?_
            refine WL_nil ?_
            refine thenE_n ?_
            refine W_cond_t rfl ?_
            refine W_seq ?_
            refine W_region ?_
            refine WL_q rfl (ev_assign rfl) ?_
            refine WL_nil ?_
            refine thenE_n ?_
            refine W_ret ?_
            refine thenE_r ?_
            refine ret1 rfl rfl ?_
            first | (exact ⟨rfl, hE⟩) | (exact (bneE hg54 (hr33.det1 hr25)).elim) | (exact absurd (hr33.det1 hr25) hp54) | (exact absurd (hr33.det1 hr25) (of_decide_eq_false hg54)) | (exact (bneE hg54 (hr33.det2 hr25)).elim) | (exact absurd (hr33.det2 hr25) hp54) | (exact absurd (hr33.det2 hr25) (of_decide_eq_false hg54)) | (exact (bneE hg54 (hr33.det3 hr25)).elim) | (exact absurd (hr33.det3 hr25) hp54) | (exact absurd (hr33.det3 hr25) (of_decide_eq_false hg54)) | (exact (tfX hg54).elim) | (exact (decF hg54).elim) | (exfalso; omega)
          · have hp54 := of_decide_eq_false hg54
            refine WL_qg rfl rfl hg54 rfl (ev_move rfl) ?_
            refine WL_qg rfl rfl hg54 rfl (ev_move rfl) ?_
            refine WL_mg rfl rfl hg54 rfl (ev_call rfl (eqIntS_spec _ _ _ _ y33 y25 _ (ownt_i hO33) hx25 (by omega))) ?_
            rintro _ w58 ⟨rfl, hE58⟩
            have hz58 := hE58.size
            replace hE := hE.trans hE58
            replace hA := hA.ext hE58
            replace hB2 := hB2.ext hE58
            replace hF23 := hF23.ext hE58
            replace hN23 := hN23.ext hE58
            replace hx25 := hx25.ext hE58
            replace hB8 := hB8.ext hE58
            replace hO33 := hO33.ext hE58
            replace hF47 := hF47.ext hE58
            replace hN47 := hN47.ext hE58
            refine WL_qg rfl rfl hg54 rfl (ev_not rfl) ?_
            refine WL_q rfl (ev_pick_f rfl hg54 rfl) ?_
            refine WL_q rfl (ev_move rfl) ?_
            refine WL_splitv (t := 61) rfl (fun hg59 => ?_) (fun hg59 => ?_)
            · have hg58 := not_true hg59
              refine WL_no rfl rfl hg59 rfl ?_
              refine WL_no rfl rfl hg59 rfl ?_
              refine WL_no rfl rfl hg59 rfl ?_
              refine WL_q rfl (ev_pick_t rfl hg59 rfl) ?_
              refine WL_nil ?_
              refine thenE_n ?_
              refine W_cond_t rfl ?_
              refine W_seq ?_
              refine W_region ?_
              refine WL_q rfl (ev_assign rfl) ?_
              refine WL_nil ?_
              refine thenE_n ?_
              refine W_ret ?_
              refine thenE_r ?_
              refine ret1 rfl rfl ?_
              first | (exact ⟨rfl, hE⟩) | (exact (bneE hg58 (hr33.det1 hr25)).elim) | (exact absurd (hr33.det1 hr25) hp58) | (exact absurd (hr33.det1 hr25) (of_decide_eq_false hg58)) | (exact (bneE hg58 (hr33.det2 hr25)).elim) | (exact absurd (hr33.det2 hr25) hp58) | (exact absurd (hr33.det2 hr25) (of_decide_eq_false hg58)) | (exact (bneE hg58 (hr33.det3 hr25)).elim) | (exact absurd (hr33.det3 hr25) hp58) | (exact absurd (hr33.det3 hr25) (of_decide_eq_false hg58)) | (exact (tfX hg58).elim) | (exact (decF hg58).elim) | (exfalso; omega)
            · have hg58 := not_false hg59
              refine WL_qg rfl rfl hg59 rfl (ev_move rfl) ?_
              refine WL_qg rfl rfl hg59 rfl (ev_move rfl) ?_
              refine WL_qg rfl rfl hg59 rfl (ev_neq_b Try.underlying4 rfl rfl) ?_
              refine WL_q rfl (ev_pick_f rfl hg59 rfl) ?_
              refine WL_nil ?_
              refine thenE_n ?_
              refine W_cond rfl (fun hg64 => ?_) (fun hg64 => ?_)
              · refine W_seq ?_
                refine W_region ?_
                refine WL_q rfl (ev_assign rfl) ?_
                refine WL_nil ?_
                refine thenE_n ?_
                refine W_ret ?_
                refine thenE_r ?_
                refine ret1 rfl rfl ?_
                first | (exact ⟨rfl, hE⟩) | (exact (bneE hg64 (hr33.det1 hr25)).elim) | (exact absurd (hr33.det1 hr25) hp64) | (exact absurd (hr33.det1 hr25) (of_decide_eq_false hg64)) | (exact (bneE hg64 (hr33.det2 hr25)).elim) | (exact absurd (hr33.det2 hr25) hp64) | (exact absurd (hr33.det2 hr25) (of_decide_eq_false hg64)) | (exact (bneE hg64 (hr33.det3 hr25)).elim) | (exact absurd (hr33.det3 hr25) hp64) | (exact absurd (hr33.det3 hr25) (of_decide_eq_false hg64)) | (exact (tfX hg64).elim) | (exact (decF hg64).elim) | (exfalso; omega)
              · refine W_skip ?_
                refine thenE_n ?_
                refine W_seq ?_
                refine W_region ?_
                refine WL_q rfl (ev_assign rfl) ?_
                refine WL_nil ?_
                refine thenE_n ?_
                refine W_seq ?_
                refine W_region ?_
                refine WL_q rfl (ev_move rfl) ?_
                refine WL_q rfl (ev_move rfl) ?_
                refine WL_m rfl (ev_call rfl (markIntS_ownH hO33 (by omega) (by omega))) ?_
                rintro _ w68 ⟨rfl, hO68, hK68⟩
                have hz68 := hK68.size
                have hR68 := hK68
                replace hE := hE.rg hR68 (by omega)
                replace hA := hA.rg hR68 (by omega)
                replace hB2 := hB2.rg hR68 (by omega)
                replace hF23 := hF23.rg hR68 (by omega)
                replace hN23 := hN23.rg hR68 (by omega)
                replace hx25 := hx25.rg hR68 (by omega)
                replace hB8 := hB8.rg hR68 (by omega)
                replace hF47 := hF47.rg hR68 (by omega)
                replace hN47 := hN47.rg hR68 (by omega)
                replace hO33 := hO68
                refine WL_q rfl (ev_assign rfl) ?_
                refine WL_nil ?_
                refine thenE_n ?_
                refine W_seq ?_
                refine W_region ?_
                refine WL_q rfl (ev_assign rfl) ?_
                refine WL_nil ?_
                refine thenE_n ?_
                refine W_seq ?_
                refine W_region ?_
                refine WL_q rfl (ev_move rfl) ?_
                refine WL_q rfl (ev_move rfl) ?_
                refine WL_m rfl (ev_call rfl (heldIntS_spec _ _ (nums 1 y33.length) _ _ (Ints.of_own (nums_len _ _) hO33.1) rfl (by omega) (by omega))) ?_
                rintro _ w71 ⟨rfl, hE71⟩
                have hz71 := hE71.size
                replace hE := hE.trans hE71
                replace hA := hA.ext hE71
                replace hB2 := hB2.ext hE71
                replace hF23 := hF23.ext hE71
                replace hN23 := hN23.ext hE71
                replace hx25 := hx25.ext hE71
                replace hB8 := hB8.ext hE71
                replace hO33 := hO33.ext hE71
                replace hF47 := hF47.ext hE71
                replace hN47 := hN47.ext hE71
                refine WL_q rfl (ev_assign rfl) ?_
                refine WL_nil ?_
                refine thenE_n ?_
                refine W_seq ?_
                refine W_seq ?_
                refine W_region ?_
                refine WL_q rfl (ev_move rfl) ?_
                refine WL_q rfl (ev_lss rfl rfl) ?_
                refine WL_nil ?_
                refine thenE_n ?_
                refine W_cond rfl (fun hg73 => ?_) (fun hg73 => ?_)
                · have hp73 := of_decide_eq_true hg73
                  refine W_seq ?_
                  refine W_region ?_
                  refine WL_q rfl (ev_assign rfl) ?_
                  refine WL_nil ?_
                  refine thenE_n ?_
                  refine W_ret ?_
                  refine thenE_r ?_
                  refine ret1 rfl rfl ?_
                  first | (exact ⟨rfl, hE⟩) | (exact (bneE hg73 (hr33.det1 hr25)).elim) | (exact absurd (hr33.det1 hr25) hp73) | (exact absurd (hr33.det1 hr25) (of_decide_eq_false hg73)) | (exact (bneE hg73 (hr33.det2 hr25)).elim) | (exact absurd (hr33.det2 hr25) hp73) | (exact absurd (hr33.det2 hr25) (of_decide_eq_false hg73)) | (exact (bneE hg73 (hr33.det3 hr25)).elim) | (exact absurd (hr33.det3 hr25) hp73) | (exact absurd (hr33.det3 hr25) (of_decide_eq_false hg73)) | (exact (tfX hg73).elim) | (exact (decF hg73).elim) | (exfalso; omega)
                · have hp73 := of_decide_eq_false hg73
                  refine W_skip ?_
                  refine thenE_n ?_
                  refine W_seq ?_
                  refine W_seq ?_
                  refine W_region ?_
                  refine WL_q rfl (ev_move rfl) ?_
                  refine WL_q rfl (ev_move rfl) ?_
                  refine WL_q rfl (ev_neq rfl rfl) ?_
                  refine WL_nil ?_
                  refine thenE_n ?_
                  refine W_cond rfl (fun hg76 => ?_) (fun hg76 => ?_)
                  · have hp76 := of_decide_eq_true hg76
                    refine W_seq ?_
                    refine W_region ?_
                    refine WL_q rfl (ev_assign rfl) ?_
                    refine WL_nil ?_
                    refine thenE_n ?_
                    refine W_ret ?_
                    refine thenE_r ?_
                    refine ret1 rfl rfl ?_
                    first | (exact ⟨rfl, hE⟩) | (exact (bneE hg76 (hr33.det1 hr25)).elim) | (exact absurd (hr33.det1 hr25) hp76) | (exact absurd (hr33.det1 hr25) (of_decide_eq_false hg76)) | (exact (bneE hg76 (hr33.det2 hr25)).elim) | (exact absurd (hr33.det2 hr25) hp76) | (exact absurd (hr33.det2 hr25) (of_decide_eq_false hg76)) | (exact (bneE hg76 (hr33.det3 hr25)).elim) | (exact absurd (hr33.det3 hr25) hp76) | (exact absurd (hr33.det3 hr25) (of_decide_eq_false hg76)) | (exact (tfX hg76).elim) | (exact (decF hg76).elim) | (exfalso; omega)
                  · have hp76 := of_decide_eq_false hg76
                    refine W_skip ?_
                    refine thenE_n ?_
                    refine W_seq ?_
                    refine W_region ?_
                    refine WL_q rfl (ev_loads st25 sz25 rfl (cellsB hB2) rfl) ?_
                    refine WL_m rfl (ev_call rfl (toNetwork_spec _ A _ hA (by omega) (by omega))) ?_
                    rintro _ w79 ⟨h79, rfl, hF79, hE79⟩
                    have hz79 := hE79.size
                    replace hE := hE.trans hE79
                    replace hA := hA.ext hE79
                    replace hB2 := hB2.ext hE79
                    replace hF23 := hF23.ext hE79
                    replace hN23 := hN23.ext hE79
                    replace hx25 := hx25.ext hE79
                    replace hB8 := hB8.ext hE79
                    replace hO33 := hO33.ext hE79
                    replace hF47 := hF47.ext hE79
                    replace hN47 := hN47.ext hE79
                    have hN79 := hF79.is
                    refine WL_q rfl (ev_move rfl) ?_
                    refine WL_m rfl (ev_call rfl (ShellSizes_spec _ A _ _ hN79 (by omega) (by omega))) ?_
                    rintro _ w81 ⟨a81, c81, y81, q81, rfl, hr81, hO81, hl81, hE81⟩
                    have hz81 := hE81.size
                    replace hE := hE.trans hE81
                    replace hA := hA.ext hE81
                    replace hB2 := hB2.ext hE81
                    replace hF23 := hF23.ext hE81
                    replace hN23 := hN23.ext hE81
                    replace hx25 := hx25.ext hE81
                    replace hB8 := hB8.ext hE81
                    replace hO33 := hO33.ext hE81
                    replace hF47 := hF47.ext hE81
                    replace hN47 := hN47.ext hE81
                    replace hF79 := hF79.ext hE81
                    replace hN79 := hN79.ext hE81
                    refine WL_q rfl (ev_move rfl) ?_
                    refine WL_q rfl (ev_extract rfl rfl) ?_
                    refine WL_q rfl (ev_extract rfl rfl) ?_
                    refine WL_q rfl (ev_assign rfl) ?_
                    refine WL_q rfl (ev_assign rfl) ?_
                    refine WL_nil ?_
                    refine thenE_n ?_
                    refine W_seq ?_
                    refine W_seq ?_
                    refine W_region ?_
                    refine WL_q rfl (ev_move rfl) ?_
                    refine WL_q rfl (ev_move rfl) ?_
                    refine WL_m rfl (ev_call rfl (eqIntS_spec _ _ _ _ y81 y25 _ (ownt_i hO81) hx25 (by omega))) ?_
                    rintro _ w86 ⟨rfl, hE86⟩
                    have hz86 := hE86.size
                    replace hE := hE.trans hE86
                    replace hA := hA.ext hE86
                    replace hB2 := hB2.ext hE86
                    replace hF23 := hF23.ext hE86
                    replace hN23 := hN23.ext hE86
                    replace hx25 := hx25.ext hE86
                    replace hB8 := hB8.ext hE86
                    replace hO33 := hO33.ext hE86
                    replace hF47 := hF47.ext hE86
                    replace hN47 := hN47.ext hE86
                    replace hF79 := hF79.ext hE86
                    replace hN79 := hN79.ext hE86
                    replace hO81 := hO81.ext hE86
                    refine WL_q rfl (ev_not rfl) ?_
                    refine WL_q rfl (ev_move rfl) ?_
                    refine WL_splitv (t := 88) rfl (fun hg87 => ?_) (fun hg87 => ?_)
                    · have hg86 := not_true hg87
                      refine WL_no rfl rfl hg87 rfl ?_
                      refine WL_no rfl rfl hg87 rfl ?_
                      refine WL_no rfl rfl hg87 rfl ?_
                      refine WL_q rfl (ev_pick_t rfl hg87 rfl) ?_
                      refine WL_nil ?_
                      refine thenE_n ?_
                      refine W_cond_t rfl ?_
                      refine W_seq ?_
                      refine W_region ?_
                      refine WL_q rfl (ev_assign rfl) ?_
                      refine WL_nil ?_
                      refine thenE_n ?_
                      refine W_ret ?_
                      refine thenE_r ?_
                      refine ret1 rfl rfl ?_
                      first | (exact ⟨rfl, hE⟩) | (exact (bneE hg86 (hr81.det1 hr25)).elim) | (exact absurd (hr81.det1 hr25) hp86) | (exact absurd (hr81.det1 hr25) (of_decide_eq_false hg86)) | (exact (bneE hg86 (hr81.det2 hr25)).elim) | (exact absurd (hr81.det2 hr25) hp86) | (exact absurd (hr81.det2 hr25) (of_decide_eq_false hg86)) | (exact (bneE hg86 (hr81.det3 hr25)).elim) | (exact absurd (hr81.det3 hr25) hp86) | (exact absurd (hr81.det3 hr25) (of_decide_eq_false hg86)) | (exact (bneE hg86 (hr33.det1 hr25)).elim) | (exact absurd (hr33.det1 hr25) hp86) | (exact absurd (hr33.det1 hr25) (of_decide_eq_false hg86)) | (exact (bneE hg86 (hr33.det2 hr25)).elim) | (exact absurd (hr33.det2 hr25) hp86) | (exact absurd (hr33.det2 hr25) (of_decide_eq_false hg86)) | (exact (bneE hg86 (hr33.det3 hr25)).elim) | (exact absurd (hr33.det3 hr25) hp86) | (exact absurd (hr33.det3 hr25) (of_decide_eq_false hg86)) | (exact (tfX hg86).elim) | (exact (decF hg86).elim) | (exfalso; omega)
                    · have hg86 := not_false hg87
                      refine WL_qg rfl rfl hg87 rfl (ev_move rfl) ?_
                      refine WL_qg rfl rfl hg87 rfl (ev_move rfl) ?_
                      refine WL_qg rfl rfl hg87 rfl (ev_neq_b Try.underlying4 rfl rfl) ?_
                      refine WL_q rfl (ev_pick_f rfl hg87 rfl) ?_
                      refine WL_nil ?_
                      refine thenE_n ?_
                      refine W_cond rfl (fun hg91 => ?_) (fun hg91 => ?_)
                      · refine W_seq ?_
                        refine W_region ?_
                        refine WL_q rfl (ev_assign rfl) ?_
                        refine WL_nil ?_
                        refine thenE_n ?_
                        refine W_ret ?_
                        refine thenE_r ?_
                        refine ret1 rfl rfl ?_
                        first | (exact ⟨rfl, hE⟩) | (exact (bneE hg91 (hr81.det1 hr25)).elim) | (exact absurd (hr81.det1 hr25) hp91) | (exact absurd (hr81.det1 hr25) (of_decide_eq_false hg91)) | (exact (bneE hg91 (hr81.det2 hr25)).elim) | (exact absurd (hr81.det2 hr25) hp91) | (exact absurd (hr81.det2 hr25) (of_decide_eq_false hg91)) | (exact (bneE hg91 (hr81.det3 hr25)).elim) | (exact absurd (hr81.det3 hr25) hp91) | (exact absurd (hr81.det3 hr25) (of_decide_eq_false hg91)) | (exact (bneE hg91 (hr33.det1 hr25)).elim) | (exact absurd (hr33.det1 hr25) hp91) | (exact absurd (hr33.det1 hr25) (of_decide_eq_false hg91)) | (exact (bneE hg91 (hr33.det2 hr25)).elim) | (exact absurd (hr33.det2 hr25) hp91) | (exact absurd (hr33.det2 hr25) (of_decide_eq_false hg91)) | (exact (bneE hg91 (hr33.det3 hr25)).elim) | (exact absurd (hr33.det3 hr25) hp91) | (exact absurd (hr33.det3 hr25) (of_decide_eq_false hg91)) | (exact (tfX hg91).elim) | (exact (decF hg91).elim) | (exfalso; omega)
                      · refine W_skip ?_
                        refine thenE_n ?_
                        refine W_seq ?_
                        refine W_region ?_
                        refine WL_q rfl (ev_assign rfl) ?_
                        refine WL_nil ?_
                        refine thenE_n ?_
                        refine W_seq ?_
                        refine W_region ?_
                        refine WL_q rfl (ev_move rfl) ?_
                        refine WL_q rfl (ev_move rfl) ?_
                        refine WL_m rfl (ev_call rfl (heldIntS_spec _ _ (nums 1 y33.length) _ _ (Ints.of_own (nums_len _ _) hO33.1) rfl (by omega) (by omega))) ?_
                        rintro _ w95 ⟨rfl, hE95⟩
                        have hz95 := hE95.size
                        replace hE := hE.trans hE95
                        replace hA := hA.ext hE95
                        replace hB2 := hB2.ext hE95
                        replace hF23 := hF23.ext hE95
                        replace hN23 := hN23.ext hE95
                        replace hx25 := hx25.ext hE95
                        replace hB8 := hB8.ext hE95
                        replace hO33 := hO33.ext hE95
                        replace hF47 := hF47.ext hE95
                        replace hN47 := hN47.ext hE95
                        replace hF79 := hF79.ext hE95
                        replace hN79 := hN79.ext hE95
                        replace hO81 := hO81.ext hE95
                        refine WL_q rfl (ev_assign rfl) ?_
                        refine WL_nil ?_
                        refine thenE_n ?_
                        refine W_seq ?_
                        refine W_seq ?_
                        refine W_region ?_
                        refine WL_q rfl (ev_move rfl) ?_
                        refine WL_q rfl (ev_lss rfl rfl) ?_
                        refine WL_nil ?_
                        refine thenE_n ?_
                        refine W_cond rfl (fun hg97 => ?_) (fun hg97 => ?_)
                        · have hp97 := of_decide_eq_true hg97
                          refine W_seq ?_
                          refine W_region ?_
                          refine WL_q rfl (ev_assign rfl) ?_
                          refine WL_nil ?_
                          refine thenE_n ?_
                          refine W_ret ?_
                          refine thenE_r ?_
                          refine ret1 rfl rfl ?_
                          first | (exact ⟨rfl, hE⟩) | (exact (bneE hg97 (hr81.det1 hr25)).elim) | (exact absurd (hr81.det1 hr25) hp97) | (exact absurd (hr81.det1 hr25) (of_decide_eq_false hg97)) | (exact (bneE hg97 (hr81.det2 hr25)).elim) | (exact absurd (hr81.det2 hr25) hp97) | (exact absurd (hr81.det2 hr25) (of_decide_eq_false hg97)) | (exact (bneE hg97 (hr81.det3 hr25)).elim) | (exact absurd (hr81.det3 hr25) hp97) | (exact absurd (hr81.det3 hr25) (of_decide_eq_false hg97)) | (exact (bneE hg97 (hr33.det1 hr25)).elim) | (exact absurd (hr33.det1 hr25) hp97) | (exact absurd (hr33.det1 hr25) (of_decide_eq_false hg97)) | (exact (bneE hg97 (hr33.det2 hr25)).elim) | (exact absurd (hr33.det2 hr25) hp97) | (exact absurd (hr33.det2 hr25) (of_decide_eq_false hg97)) | (exact (bneE hg97 (hr33.det3 hr25)).elim) | (exact absurd (hr33.det3 hr25) hp97) | (exact absurd (hr33.det3 hr25) (of_decide_eq_false hg97)) | (exact (tfX hg97).elim) | (exact (decF hg97).elim) | (exfalso; omega)
                        · have hp97 := of_decide_eq_false hg97
                          refine W_skip ?_
                          refine thenE_n ?_
                          refine W_seq ?_
                          refine W_seq ?_
                          refine W_region ?_
                          refine WL_q rfl (ev_move rfl) ?_
                          refine WL_q rfl (ev_move rfl) ?_
                          refine WL_q rfl (ev_neq rfl rfl) ?_
                          refine WL_nil ?_
                          refine thenE_n ?_
                          refine W_cond rfl (fun hg100 => ?_) (fun hg100 => ?_)
                          · have hp100 := of_decide_eq_true hg100
                            refine W_seq ?_
                            refine W_region ?_
                            refine WL_q rfl (ev_assign rfl) ?_
                            refine WL_nil ?_
                            refine thenE_n ?_
                            refine W_ret ?_
                            refine thenE_r ?_
                            refine ret1 rfl rfl ?_
                            first | (exact ⟨rfl, hE⟩) | (exact (bneE hg100 (hr81.det1 hr25)).elim) | (exact absurd (hr81.det1 hr25) hp100) | (exact absurd (hr81.det1 hr25) (of_decide_eq_false hg100)) | (exact (bneE hg100 (hr81.det2 hr25)).elim) | (exact absurd (hr81.det2 hr25) hp100) | (exact absurd (hr81.det2 hr25) (of_decide_eq_false hg100)) | (exact (bneE hg100 (hr81.det3 hr25)).elim) | (exact absurd (hr81.det3 hr25) hp100) | (exact absurd (hr81.det3 hr25) (of_decide_eq_false hg100)) | (exact (bneE hg100 (hr33.det1 hr25)).elim) | (exact absurd (hr33.det1 hr25) hp100) | (exact absurd (hr33.det1 hr25) (of_decide_eq_false hg100)) | (exact (bneE hg100 (hr33.det2 hr25)).elim) | (exact absurd (hr33.det2 hr25) hp100) | (exact absurd (hr33.det2 hr25) (of_decide_eq_false hg100)) | (exact (bneE hg100 (hr33.det3 hr25)).elim) | (exact absurd (hr33.det3 hr25) hp100) | (exact absurd (hr33.det3 hr25) (of_decide_eq_false hg100)) | (exact (tfX hg100).elim) | (exact (decF hg100).elim) | (exfalso; omega)
                          · have hp100 := of_decide_eq_false hg100
                            refine W_skip ?_
                            refine thenE_n ?_
                            refine W_seq ?_
                            refine W_region ?_
                            refine WL_q rfl (ev_assign rfl) ?_
                            refine WL_nil ?_
                            refine thenE_n ?_
                            refine W_ret ?_
                            refine ret1 rfl rfl ?_
                            first | (exact ⟨rfl, hE⟩) | (exact (bneE hg100 (hr81.det1 hr25)).elim) | (exact absurd (hr81.det1 hr25) hp100) | (exact absurd (hr81.det1 hr25) (of_decide_eq_false hg100)) | (exact (bneE hg100 (hr81.det2 hr25)).elim) | (exact absurd (hr81.det2 hr25) hp100) | (exact absurd (hr81.det2 hr25) (of_decide_eq_false hg100)) | (exact (bneE hg100 (hr81.det3 hr25)).elim) | (exact absurd (hr81.det3 hr25) hp100) | (exact absurd (hr81.det3 hr25) (of_decide_eq_false hg100)) | (exact (bneE hg100 (hr33.det1 hr25)).elim) | (exact absurd (hr33.det1 hr25) hp100) | (exact absurd (hr33.det1 hr25) (of_decide_eq_false hg100)) | (exact (bneE hg100 (hr33.det2 hr25)).elim) | (exact absurd (hr33.det2 hr25) hp100) | (exact absurd (hr33.det2 hr25) (of_decide_eq_false hg100)) | (exact (bneE hg100 (hr33.det3 hr25)).elim) | (exact absurd (hr33.det3 hr25) hp100) | (exact absurd (hr33.det3 hr25) (of_decide_eq_false hg100)) | (exact (tfX hg100).elim) | (exact (decF hg100).elim) | (exfalso; omega)

end Go.Proofs.Ytgnlfhggebijcaa
