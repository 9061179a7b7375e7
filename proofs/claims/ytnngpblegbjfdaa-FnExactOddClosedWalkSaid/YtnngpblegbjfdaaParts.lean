/- Contracts of ComponentsOf and CentresOf, of the program and of the reference; the walks of their laws. -/
import Derived.Test.YtnngpblegbjfdaaDist
namespace Go.Proofs.Ytnngpblegbjfdaa
open Go Go.RowKit

def cen (A : Net) : List Int := cenN (eccM A) (lmin (eccM A)) A.ends.length
theorem eccM_le {A : Net} (hk : EndsOk A.ends) (h40 : A.ends.length ≤ 40) {v : Nat} (h : v < (eccM A).length) : 0 ≤ (eccM A)[v] ∧ (eccM A)[v] ≤ 40 := by
  have hv : v < A.ends.length := by rw [eccM_len] at h; exact h
  simp only [eccM, List.getElem_map, List.getElem_range]
  exact mmax_rng (m := 40) (by omega) (fun d hd => by have := bfs_rng hk (v := (v : Int)) (by omega) (by simpa using hv) d hd; omega)
theorem ecc_at {A : Net} {v : Nat} (h : v < (eccM A).length) : mmax (bfs A.ends (v : Int)) = (eccM A)[v] := by simp [eccM]
theorem eccL_at {A : Net} {v : Nat} (h : v < (eccL A).length) : lmax (bfs A.ends (v : Int)) = (eccL A)[v] := by simp [eccL]
theorem cen_eq {A : Net} (hk : EndsOk A.ends) (h40 : A.ends.length ≤ 40) (h0 : 0 < A.ends.length) : cenN (eccM A) (mnN 40 (eccM A) A.ends.length) A.ends.length = cen A := by
  have hl := eccM_len A
  have h1 := mnN_all (b := 40) (E := eccM A) (by omega) (eccM_le hk h40 (by omega)).2
  rw [hl] at h1
  rw [h1]; rfl
theorem cen_len (A : Net) : (cen A).length ≤ A.ends.length := cenN_len _ _ _

end Go.Proofs.Ytnngpblegbjfdaa
