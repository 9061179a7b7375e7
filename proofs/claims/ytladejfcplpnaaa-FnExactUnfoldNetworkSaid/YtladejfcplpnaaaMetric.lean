/- Contracts of slices.Repeat at []int, of the distances from a node, and of what is made of them; the walks of FnExactIsConnected and FnExactDiameterOf. -/
import Derived.Shelf.Bits.Mul64
import Derived.Test.YtladejfcplpnaaaStd
import Derived.Test.YtladejfcplpnaaaPortMap
import Derived.Test.YtladejfcplpnaaaBfs
import Derived.Test.YtladejfcplpnaaaMore
namespace Go.Proofs.Ytladejfcplpnaaa
open Go Go.RowKit

theorem NOk.endsOk {n : Net} (h : NOk n) : EndsOk n.ends := by
  intro r hr e he
  obtain ⟨v, hv, rfl⟩ := List.mem_iff_getElem.1 hr
  obtain ⟨i, hi, rfl⟩ := List.mem_iff_getElem.1 he
  have := h.endOk hv hi
  exact ⟨this.1, this.2.1⟩
theorem EndsOk.at {ends : Ends} (h : EndsOk ends) {v i : Nat} (hv : v < ends.length) (hi : i < ends[v].length) : 0 ≤ ends[v][i].1 ∧ ends[v][i].1.toNat < ends.length := h _ (List.getElem_mem hv) _ (List.getElem_mem hi)
theorem near_len {ends : Ends} {x : Int} (h : x.toNat < ends.length) : (near ends x).length = ends[x.toNat].length := by rw [near_get h]; simp
theorem near_at {ends : Ends} {x : Int} (h : x.toNat < ends.length) {k : Nat} (hk : k < ends[x.toNat].length) (h2 : k < (near ends x).length) : (near ends x)[k] = ends[x.toNat][k].1 := by simp [near_get h]

theorem drop_zero_of {α : Type} {l : List α} {i : Nat} (h : ¬ ((l.drop i).length : Int) > 0) : l.length ≤ i := by simp at h; omega
theorem drop_at {l : List Int} {i : Nat} (h : 0 < (l.drop i).length) (h2 : i < l.length) : (l.drop i)[0] = l[i] := by simp
theorem ownq_to {lo hi : Nat} {w : World} {E : TypeId} {a : Option Addr} {n n' c : Nat} {xs ys : List Int} (h : OwnQ lo hi w E 1 a n c (xs.map VI)) (e : xs = ys) (hn : n = n') : OwnQ lo hi w E 1 a n' c (ys.map VI) := by subst e hn; exact h
theorem own_to {lo : Nat} {w : World} {E : TypeId} {a : Option Addr} {n n' c : Nat} {xs ys : List Int} (h : Own lo w E 1 a n c (xs.map VI)) (e : xs = ys) (hn : n = n') : Own lo w E 1 a n' c (ys.map VI) := by subst e hn; exact h
theorem blk_to {w : World} {b : Nat} {T : TypeId} {xs ys : List Int} (h : Blk w b T (xs.map VI)) (e : xs = ys) : Blk w b T (ys.map VI) := e ▸ h
theorem bfsN0 {ends : Ends} {v : Int} : (List.replicate ends.length (-1)).set v.toNat 0 = (bfsN ends v 0).1 := rfl
theorem cell_set_ne {w : World} {g i j m : Nat} {T : TypeId} {xs : List Int} {y : Int} (h : Blk w g T ((xs.set m y).map VI)) (hi : i < xs.length) (hj : j = i) (hne : m ≠ i) : w.cell? ⟨g, j, none⟩ = some (VI xs[i]) := by
  have := icell (i := i) (j := j) h (by simpa using hi) hj
  rwa [List.getElem_set_ne hne] at this
theorem drop_snoc {l : List Int} {i : Nat} {y : Int} (h : i ≤ l.length) : l.drop i ++ [y] = (l ++ [y]).drop i := (List.drop_append_of_le_length h).symm

def lmax (xs : List Int) : Int := match xs with | [] => 0 | x :: r => r.foldl max x
theorem lmax_take {xs : List Int} {i : Nat} (h0 : 0 < i) (hi : i < xs.length) : max (lmax (xs.take i)) xs[i] = lmax (xs.take (i + 1)) := by
  cases xs with
  | nil => simp at hi
  | cons x r =>
    obtain ⟨k, rfl⟩ : ∃ k, i = k + 1 := ⟨i - 1, by omega⟩
    simp only [List.take_succ_cons, lmax, List.getElem_cons_succ]
    rw [List.take_succ_eq_append_getElem (by simpa using hi), List.foldl_append]
    rfl
theorem lmax_one {xs : List Int} (h : 0 < xs.length) : xs[0] = lmax (xs.take 1) := by
  cases xs with
  | nil => simp at h
  | cons x r => rfl
def mmax (xs : List Int) : Int := xs.foldl max 0
theorem mmax_take {xs : List Int} {i : Nat} (hi : i < xs.length) : max (mmax (xs.take i)) xs[i] = mmax (xs.take (i + 1)) := by
  unfold mmax; rw [List.take_succ_eq_append_getElem hi, List.foldl_append]; rfl
theorem foldl_max_max (r : List Int) : ∀ a b : Int, r.foldl max (max a b) = max a (r.foldl max b) := by
  induction r with
  | nil => intro a b; rfl
  | cons x r ih => intro a b; rw [List.foldl_cons, List.foldl_cons, show max (max a b) x = max a (max b x) by omega, ih]
theorem foldl_max_ge (r : List Int) : ∀ a : Int, a ≤ r.foldl max a ∧ ∀ x ∈ r, x ≤ r.foldl max a := by
  induction r with
  | nil => intro a; exact ⟨Int.le_refl _, fun x hx => by simp at hx⟩
  | cons y r ih =>
    intro a
    obtain ⟨h1, h2⟩ := ih (max a y)
    rw [List.foldl_cons]
    refine ⟨by omega, fun x hx => ?_⟩
    rcases List.mem_cons.1 hx with rfl | hx
    · omega
    · exact h2 x hx
theorem foldl_max_le (r : List Int) : ∀ a m : Int, a ≤ m → (∀ x ∈ r, x ≤ m) → r.foldl max a ≤ m := by
  induction r with
  | nil => intro a m h _; exact h
  | cons y r ih => intro a m h hr; rw [List.foldl_cons]; exact ih _ _ (by have := hr y (List.mem_cons_self ..); omega) (fun x hx => hr x (List.mem_cons_of_mem _ hx))
theorem mmax_eq {xs : List Int} (h : ∃ x ∈ xs, 0 ≤ x) : mmax xs = lmax xs := by
  cases xs with
  | nil => obtain ⟨x, hx, _⟩ := h; simp at hx
  | cons y r =>
    show (y :: r).foldl max 0 = r.foldl max y
    rw [List.foldl_cons, foldl_max_max]
    obtain ⟨x, hx, h0⟩ := h
    have h1 := foldl_max_ge r y
    rcases List.mem_cons.1 hx with rfl | hx
    · omega
    · have := h1.2 x hx; omega
theorem mmax_rng {xs : List Int} {m : Int} (h0 : 0 ≤ m) (h : ∀ x ∈ xs, x ≤ m) : 0 ≤ mmax xs ∧ mmax xs ≤ m := ⟨(foldl_max_ge xs 0).1, foldl_max_le xs 0 m h0 h⟩
theorem lmax_le {xs : List Int} {m : Int} (h0 : 0 ≤ m) (h : ∀ x ∈ xs, x ≤ m) : lmax xs ≤ m := by
  cases xs with
  | nil => exact h0
  | cons y r => exact foldl_max_le r y m (h y (List.mem_cons_self ..)) (fun x hx => h x (List.mem_cons_of_mem _ hx))

/-- The first place of x, or -1. -/
theorem idxF_mem {xs : List Int} {x : Int} : decide (0 ≤ idxF (fun y => decide (x = y)) xs) = decide (x ∈ xs) := by
  rw [idxF_any]
  simp only [List.any_eq, decide_eq_true_eq, decide_eq_decide]
  exact ⟨fun ⟨y, hy, e⟩ => e ▸ hy, fun h => ⟨x, h, rfl⟩⟩

theorem l1All_len {l r n : Nat} {a : Option Addr} {c : Nat} {xs : List Int} {lo hi : Int} {w : World} (hl : xs.length = n) (hx : Ints l r w a c xs) (hm : xs.length ≤ 1048576) :
    Fn Try.prog 51 #[.slice a n c, VI lo, VI hi] w (fun v w' => v = VB (allR xs lo hi) ∧ Ext w w') := by subst hl; exact l1All_spec _ _ _ _ _ _ hx (by omega)

end Go.Proofs.Ytladejfcplpnaaa
