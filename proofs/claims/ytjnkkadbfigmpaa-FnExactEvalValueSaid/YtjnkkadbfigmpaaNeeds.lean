/- Contracts of NeedsIds and NeedsRound, of the program and of the reference. -/
import Derived.Test.YtjnkkadbfigmpaaValue
import Derived.Test.YtjnkkadbfigmpaaLib
namespace Go.Proofs.Ytjnkkadbfigmpaa
open Go Go.RowKit

def usesK (xs : List (Int × Int)) (k : Int) : Bool := xs.any fun p => decide (p.1 = k)
theorem usesK_at {xs : List (Int × Int)} {k : Int} {i : Nat} (hi : i < xs.length) (h : xs[i].1 = k) : usesK xs k = true := List.any_eq_true.2 ⟨xs[i], List.getElem_mem hi, by simp [h]⟩
theorem usesK_none {xs : List (Int × Int)} {k : Int} (h : ∀ j (h2 : j < xs.length), ¬ xs[j].1 = k) : usesK xs k = false := by
  simp only [usesK, List.any_eq_false, decide_eq_true_eq]
  intro p hp
  obtain ⟨i, hi, rfl⟩ := List.mem_iff_getElem.1 hp
  exact h i hi

end Go.Proofs.Ytjnkkadbfigmpaa
