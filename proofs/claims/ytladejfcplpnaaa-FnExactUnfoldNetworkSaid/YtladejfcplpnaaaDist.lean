/- Contracts of DistancesFrom, BallOf and ShellSizes, of the program and of the reference; the walks of their laws. -/
import Derived.Test.YtladejfcplpnaaaMetric2
import Derived.Test.YtladejfcplpnaaaMarkI
import Derived.Test.YtladejfcplpnaaaLists
namespace Go.Proofs.Ytladejfcplpnaaa
open Go Go.RowKit

theorem inB_eq (n lo hi : Int) : inB n lo hi = inR n lo hi := rfl
/-- A valid network and a node of it. -/
def NN (A : Net) (v : Int) : Prop := NOk A ∧ HasNode A v
theorem NOk.sym {n : Net} (h : NOk n) : SymE n.ends := by
  intro x y h0 h1 hy
  rw [near_get h1] at hy
  obtain ⟨e, he, rfl⟩ := List.mem_map.1 hy
  obtain ⟨j, hj, rfl⟩ := List.mem_iff_getElem.1 he
  obtain ⟨k1, k2, k3, k4, k5⟩ := h.endOk h1 hj
  rw [near_get k2]
  refine List.mem_map.2 ⟨_, List.getElem_mem k4, ?_⟩
  rw [k5]
  show ((x.toNat : Nat) : Int) = x
  omega
theorem hasNode_in {A : Net} {v : Int} : inR v 0 ((A.ends.length : Int) - 1) = true ↔ HasNode A v := by
  rw [inR_true]; unfold HasNode; omega
theorem inB_t {n lo hi : Int} (h : lo ≤ n ∧ n ≤ hi) : inB n lo hi = true := by simp [inB, h]

theorem bfs_ex' {ends : Ends} (hk : EndsOk ends) {v : Int} (hv1 : 0 ≤ v) (hv2 : v.toNat < ends.length) : ∃ x ∈ bfs ends v, 0 ≤ x := by
  have hs := bfs_src hk hv1 hv2
  have hl := bfs_len hk hv1 hv2
  rw [getD_eq (by omega)] at hs
  exact ⟨_, List.getElem_mem _, by rw [hs]; omega⟩
theorem mmax_ge {xs : List Int} {i : Nat} (h : i < xs.length) : xs[i] ≤ mmax xs := (foldl_max_ge xs 0).2 _ (List.getElem_mem h)
/-- How many nodes have each distance. -/
def shl (ds : List Int) : List Int := shlN (mmax ds + 1).toNat ds ds.length

set_option maxRecDepth 100000 in
theorem neNode_spec {loA hiA : Nat} (nA : NA) (A : Net) (v : Int) (w : World) (hA : IsNet loA hiA w nA A) (hhiA : hiA ≤ w.heap.size) (hnA : totN A ≤ 1048576) :
    Fn Try.prog 45 #[netV nA A, VI v] w (fun o9 w' => ∃ b, o9 = VB b ∧ (b = true ↔ NN A v) ∧ Ext w w') := by
  have hqA := totL_len A.ends
  have hmA : totL A.ends + A.ids.length + A.inputs.length ≤ 1048576 := hnA
  have hE := Ext.refl w
  refine Fn_of Try.func45 rfl rfl (by kernel_rfl) rfl ?_
  refine W_seq ?_
  refine W_region ?_
  refine WL_m rfl (ev_box rfl) ?_
  rintro _ w2 ⟨rfl, hN2⟩
  have hz2 := hN2.size
  replace hE := hE.trans hN2.ext
  replace hA := hA.ext hN2.ext
  have hB2 : Blk w2 _ _ [_, _, _] := hN2.blk
  refine WL_q rfl (ev_assign rfl) ?_
  refine WL_nil ?_
  refine thenE_n ?_
  refine W_seq ?_
  refine W_region ?_
  refine WL_q rfl (ev_loads st31 sz31 rfl (cellsB hB2) rfl) ?_
  refine WL_m rfl (ev_call rfl (neGood_spec _ A _ hA (by omega) (by omega))) ?_
  rintro _ w6 ⟨b6, rfl, hb6, hE6⟩
  have hz6 := hE6.size
  replace hE := hE.trans hE6
  replace hA := hA.ext hE6
  replace hB2 := hB2.ext hE6
  refine WL_q rfl (ev_move rfl) ?_
  refine WL_splitv (t := 7) rfl (fun hg6 => ?_) (fun hg6 => ?_)
  · have hp6 := hb6.1 hg6
    refine WL_qg rfl rfl hg6 rfl (ev_move rfl) ?_
    refine WL_qg rfl rfl hg6 rfl (ev_fieldAddr fo31_0 rfl) ?_
    refine WL_qg rfl rfl hg6 rfl (ev_load one29 rfl (hB2.cell rfl)) ?_
    refine WL_qg rfl rfl hg6 rfl (ev_len Try.underlying29 rfl) ?_
    refine WL_qg rfl rfl hg6 rfl (ev_sub rfl rfl (by omega)) ?_
    refine WL_mg rfl rfl hg6 rfl (ev_call rfl (l1In_spec _ _ _ _)) ?_
    rintro _ _ ⟨rfl, rfl⟩
    refine WL_q rfl (ev_pick_t rfl hg6 rfl) ?_
    refine WL_q rfl (ev_assign rfl) ?_
    refine WL_nil ?_
    refine thenE_n ?_
    refine W_ret ?_
    refine ret1 rfl rfl ?_
    first | (exact ⟨_, rfl, ⟨fun h => ⟨hp6, hasNode_in.1 h⟩, fun h => hasNode_in.2 h.2⟩, hE⟩) | (exact ⟨_, rfl, ffI fun h => hp6 h.1, hE⟩)
  · have hp6 := ttN hb6 hg6
    refine WL_no rfl rfl hg6 rfl ?_
    refine WL_no rfl rfl hg6 rfl ?_
    refine WL_no rfl rfl hg6 rfl ?_
    refine WL_no rfl rfl hg6 rfl ?_
    refine WL_no rfl rfl hg6 rfl ?_
    refine WL_no rfl rfl hg6 rfl ?_
    refine WL_q rfl (ev_pick_f rfl hg6 rfl) ?_
    refine WL_q rfl (ev_assign rfl) ?_
    refine WL_nil ?_
    refine thenE_n ?_
    refine W_ret ?_
    refine ret1 rfl rfl ?_
    first | (exact ⟨_, rfl, ⟨fun h => ⟨hp6, hasNode_in.1 h⟩, fun h => hasNode_in.2 h.2⟩, hE⟩) | (exact ⟨_, rfl, ffI fun h => hp6 h.1, hE⟩)

end Go.Proofs.Ytladejfcplpnaaa
