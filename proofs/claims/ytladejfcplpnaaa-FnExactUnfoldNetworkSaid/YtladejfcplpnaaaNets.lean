/- Rows of pairs that read, apart from the slice that holds them; networks that a call has made. No condition. -/
import Derived.Test.YtladejfcplpnaaaRowsP
namespace Go.Proofs.Ytladejfcplpnaaa
open Go Go.RowKit

/-- Rows that read. -/
def PRows (lo hi : Nat) (w : World) (vs : List (Option Addr × Nat)) (xss : List (List (Int × Int))) : Prop := vs.length = xss.length ∧ ∀ i (h1 : i < vs.length) (h2 : i < xss.length), Pairs lo hi w vs[i].1 vs[i].2 xss[i]
section
variable {lo hi : Nat} {w w' : World} {vs us : List (Option Addr × Nat)} {xss yss : List (List (Int × Int))}
theorem PRows.keep {F : Nat → Prop} (h : PRows lo hi w vs xss) (k : Keep F w w') (hF : ∀ b, lo ≤ b → b < hi → F b) : PRows lo hi w' vs xss := ⟨h.1, fun i h1 h2 => Pairs.keep (h.2 i h1 h2) k hF⟩
theorem PRows.ext (h : PRows lo hi w vs xss) (k : Ext w w') : PRows lo hi w' vs xss := ⟨h.1, fun i h1 h2 => (h.2 i h1 h2).ext k⟩
theorem PRows.sto {b : Nat} {T : TypeId} {ds : List Value} (h : PRows lo hi w vs xss) (k : Sto w w' b T ds) (hb : b < lo ∨ hi ≤ b) : PRows lo hi w' vs xss := ⟨h.1, fun i h1 h2 => (h.2 i h1 h2).sto k hb⟩
theorem PRows.kx {b : Nat} (h : PRows lo hi w vs xss) (k : KX b w w') (hb : b < lo ∨ hi ≤ b) : PRows lo hi w' vs xss := ⟨h.1, fun i h1 h2 => (h.2 i h1 h2).kx k hb⟩
theorem PRows.rg {l r p q : Nat} (h : PRows lo hi w vs xss) (k : Rg l r p q w w') (hb : (hi ≤ l ∨ r ≤ lo ∨ (p ≤ lo ∧ hi ≤ q)) ∧ hi ≤ w.heap.size) : PRows lo hi w' vs xss := ⟨h.1, fun i h1 h2 => (h.2 i h1 h2).rg k hb⟩
theorem PRows.app {a' : Option Addr} {lo' sz' n' c' : Nat} {E : TypeId} {ds : List Value} (h : PRows lo hi w vs xss) (k : Apd w w' a') (o : Own lo' w E sz' a' n' c' ds) (hb : hi ≤ lo') : PRows lo hi w' vs xss := ⟨h.1, fun i h1 h2 => (h.2 i h1 h2).app k o hb⟩
theorem PRows.mono {lo' hi' : Nat} (h : PRows lo hi w vs xss) (h1 : lo' ≤ lo) (h2 : hi ≤ hi') : PRows lo' hi' w vs xss := ⟨h.1, fun i h3 h4 => (h.2 i h3 h4).mono h1 h2⟩
theorem PRows.append (h : PRows lo hi w vs xss) (k : PRows lo hi w us yss) : PRows lo hi w (vs ++ us) (xss ++ yss) := by
  refine ⟨by rw [List.length_append, List.length_append, h.1, k.1], fun i h1 h2 => ?_⟩
  by_cases hi' : i < vs.length
  · simp only [List.getElem_append_left hi', List.getElem_append_left (show i < xss.length by rw [← h.1]; exact hi')]
    exact h.2 i hi' _
  · have hl := h.1
    have h3 : i - xss.length < us.length := by rw [List.length_append] at h1; omega
    have h4 : i - xss.length < yss.length := by rw [List.length_append] at h2; omega
    simp only [List.getElem_append_right (show vs.length ≤ i by omega), List.getElem_append_right (show xss.length ≤ i by omega)]
    simp only [hl]
    exact k.2 _ h3 h4
theorem PRows.nil : PRows lo hi w [] [] := ⟨rfl, fun i h1 => absurd h1 (Nat.not_lt_zero _)⟩
theorem PRows.nest {a : Option Addr} {c : Nat} (h : PRows lo hi w vs xss) (hs : SAt lo hi w a ((vs.zip xss).map fun p => rowVal p.1 p.2)) (hc : xss.length ≤ c) : Pairss lo hi w a c xss := by
  refine ⟨vs, h.1, ⟨by simp [h.1]; omega, fun r hr => by obtain ⟨p, _, rfl⟩ := List.mem_map.1 hr; rfl, ?_⟩, fun i hi1 hi2 => h.2 i hi2 hi1⟩
  have e : (((vs.zip xss).map fun p => rowCells p.1 p.2)).flatten = (vs.zip xss).map fun p => rowVal p.1 p.2 := by
    generalize vs.zip xss = l
    induction l with
    | nil => rfl
    | cons x r ih => simp [rowCells, rowVal] at ih ⊢; exact ih
  rw [e]; exact hs
end
end Go.Proofs.Ytladejfcplpnaaa
