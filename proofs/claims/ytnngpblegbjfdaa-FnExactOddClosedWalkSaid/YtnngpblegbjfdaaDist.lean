/- Contracts of DistancesFrom, BallOf and ShellSizes, of the program and of the reference; the walks of their laws. -/
import Derived.Test.YtnngpblegbjfdaaMetric2
import Derived.Test.YtnngpblegbjfdaaMarkI
import Derived.Test.YtnngpblegbjfdaaLists
namespace Go.Proofs.Ytnngpblegbjfdaa
open Go Go.RowKit

theorem inB_eq (n lo hi : Int) : inB n lo hi = inR n lo hi := rfl
/-- A valid network and a node of it. -/
def NN (A : Net) (v : Int) : Prop := NOk A ∧ HasNode A v
theorem NOk.sym {n : Net} (h : NOk n) : SymE n.ends := by
  intro x y h0 h1 hy
  rw [near_get h1] at hy
  obtain ⟨e, he, rfl⟩ := List.mem_map.1 hy
  obtain ⟨j, hj, rfl⟩ := List.mem_iff_getElem.1 he
  obtain ⟨k1, k2, k3, k4, k5⟩ := h.endOk h1 hj
  rw [near_get k2]
  refine List.mem_map.2 ⟨_, List.getElem_mem k4, ?_⟩
  rw [k5]
  show ((x.toNat : Nat) : Int) = x
  omega
theorem hasNode_in {A : Net} {v : Int} : inR v 0 ((A.ends.length : Int) - 1) = true ↔ HasNode A v := by
  rw [inR_true]; unfold HasNode; omega
theorem inB_t {n lo hi : Int} (h : lo ≤ n ∧ n ≤ hi) : inB n lo hi = true := by simp [inB, h]

theorem bfs_ex' {ends : Ends} (hk : EndsOk ends) {v : Int} (hv1 : 0 ≤ v) (hv2 : v.toNat < ends.length) : ∃ x ∈ bfs ends v, 0 ≤ x := by
  have hs := bfs_src hk hv1 hv2
  have hl := bfs_len hk hv1 hv2
  rw [getD_eq (by omega)] at hs
  exact ⟨_, List.getElem_mem _, by rw [hs]; omega⟩
theorem mmax_ge {xs : List Int} {i : Nat} (h : i < xs.length) : xs[i] ≤ mmax xs := (foldl_max_ge xs 0).2 _ (List.getElem_mem h)
/-- How many nodes have each distance. -/
def shl (ds : List Int) : List Int := shlN (mmax ds + 1).toNat ds ds.length

end Go.Proofs.Ytnngpblegbjfdaa
