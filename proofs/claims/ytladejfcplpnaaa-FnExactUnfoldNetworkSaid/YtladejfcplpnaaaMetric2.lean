/- Contracts of IsConnected and DiameterOf, of the program and of the reference; the walks of their laws. -/
import Derived.Test.YtladejfcplpnaaaMetric
namespace Go.Proofs.Ytladejfcplpnaaa
open Go Go.RowKit

/-- Every node can be reached from node 0. -/
def Conn (A : Net) : Prop := ∀ d ∈ bfs A.ends 0, 0 ≤ d
theorem conn_no {A : Net} (hk : EndsOk A.ends) (h0 : 0 < A.ends.length) : (!decide (-1 ∈ bfs A.ends 0)) = true ↔ Conn A := by
  have hr := bfs_rng hk (v := 0) (by omega) (by simpa using h0)
  rw [Bool.not_eq_true', decide_eq_false_iff_not]
  exact ⟨fun h d hd => by have := hr d hd; by_cases e : d = -1; exact absurd (e ▸ hd) h; omega, fun h hm => by have := h _ hm; omega⟩
theorem conn_all {A : Net} (hk : EndsOk A.ends) (h0 : 0 < A.ends.length) (h40 : A.ends.length ≤ 40) : allR (bfs A.ends 0) 0 40 = true ↔ Conn A := by
  have hr := bfs_rng hk (v := 0) (by omega) (by simpa using h0)
  rw [allR_true]
  exact ⟨fun h d hd => (h d hd).1, fun h d hd => ⟨h d hd, by have := hr d hd; omega⟩⟩
def eccL (A : Net) : List Int := (List.range A.ends.length).map fun (v : Nat) => lmax (bfs A.ends v)
def eccM (A : Net) : List Int := (List.range A.ends.length).map fun (v : Nat) => mmax (bfs A.ends v)
theorem eccL_len (A : Net) : (eccL A).length = A.ends.length := by simp [eccL]
theorem eccM_len (A : Net) : (eccM A).length = A.ends.length := by simp [eccM]
theorem bfs_ex {A : Net} (hk : EndsOk A.ends) {v : Nat} (hv : v < A.ends.length) : ∃ x ∈ bfs A.ends v, 0 ≤ x := by
  have hs := bfs_src hk (v := (v : Int)) (by omega) (by simpa using hv)
  have hl := bfs_len hk (v := (v : Int)) (by omega) (by simpa using hv)
  rw [getD_eq (by simp [hl, hv])] at hs
  exact ⟨_, List.getElem_mem _, by rw [hs]; omega⟩
theorem ecc_eq {A : Net} (hk : EndsOk A.ends) : eccL A = eccM A := by
  unfold eccL eccM
  refine List.map_congr_left fun v hv => ?_
  exact (mmax_eq (bfs_ex hk (List.mem_range.1 hv))).symm
theorem eccM_pos (A : Net) : ∀ x ∈ eccM A, 0 ≤ x := by
  intro x hx
  obtain ⟨v, _, rfl⟩ := List.mem_map.1 hx
  exact (foldl_max_ge _ 0).1
theorem diam_eq {A : Net} (hk : EndsOk A.ends) (h0 : 0 < A.ends.length) : lmax (eccL A) = mmax (eccM A) := by
  rw [ecc_eq hk, mmax_eq]
  have : 0 < (eccM A).length := by rw [eccM_len]; exact h0
  exact ⟨_, List.getElem_mem this, eccM_pos A _ (List.getElem_mem this)⟩

end Go.Proofs.Ytladejfcplpnaaa
