/- The text of a view: how it is written, how long it is. -/
import Derived.Test.YticlopepmnlkmaaMtx
import Derived.Test.YticlopepmnlkmaaNetwork
import Derived.Test.YticlopepmnlkmaaBfs
namespace Go.Proofs.Yticlopepmnlkmaa
open Go Go.RowKit

def digB (n : Int) : UInt8 := UInt8.ofNat (48 + n).toNat
theorem dec_dig {n : Int} (h : 0 ≤ n ∧ n < 10) : Lib.decDigits n.toNat = [digB n] := by
  rw [dec1 (by omega)]
  unfold digB
  congr 2
  omega
def rowV (A : Net) (v : Nat) : List (Int × Int) := A.ends.getD v []
def headV (A : Net) (v : Nat) : List UInt8 := [digB ((rowV A v).length : Int), 46, digB (A.inputs.getD v 0)]
/-- The first k ends of a row, each with what f says of its node. -/
def brV (f : Int → List UInt8) (es : List (Int × Int)) : Nat → List UInt8
  | 0 => []
  | k + 1 => brV f es k ++ ((if k = 0 then 40 else 44) :: digB (es.getD k (0, 0)).2 :: 58 :: f (es.getD k (0, 0)).1)
def txtV (A : Net) : Nat → Nat → List UInt8
  | 0, v => headV A v
  | t + 1, v => if (rowV A v).length = 0 then headV A v else headV A v ++ (brV (fun x => txtV A t x.toNat) (rowV A v) (rowV A v).length ++ [41])
/-- Sums over the first k ends. -/
def smV (f : Int → Nat) (es : List (Int × Int)) : Nat → Nat
  | 0 => 0
  | k + 1 => smV f es k + f (es.getD k (0, 0)).1
section
variable {A : Net} {f g : Int → List UInt8} {es : List (Int × Int)} {k t v : Nat}
theorem brV_len : (brV f es k).length = 3 * k + smV (fun x => (f x).length) es k := by
  induction k with
  | zero => rfl
  | succ k ih => simp only [brV, smV, List.length_append, List.length_cons, ih]; omega
theorem brV_congr (h : ∀ j, j < k → f (es.getD j (0, 0)).1 = g (es.getD j (0, 0)).1) : brV f es k = brV g es k := by
  induction k with
  | zero => rfl
  | succ k ih => simp only [brV]; rw [ih fun j hj => h j (by omega), h k (by omega)]
theorem smV_ge {f : Int → Nat} {j : Nat} (h : j < k) : f (es.getD j (0, 0)).1 ≤ smV f es k := by
  induction k with
  | zero => omega
  | succ k ih =>
    simp only [smV]
    by_cases e : j = k
    · subst e; omega
    · have := ih (by omega); omega
theorem smV_le {f : Int → Nat} {M : Nat} (h : ∀ j, j < k → f (es.getD j (0, 0)).1 ≤ M) : smV f es k ≤ M * k := by
  induction k with
  | zero => exact Nat.le_refl _
  | succ k ih =>
    have h1 := ih fun j hj => h j (by omega)
    have h2 := h k (by omega)
    simp only [smV, Nat.mul_succ]
    omega
theorem txtV_zero : txtV A 0 v = headV A v := rfl
theorem txtV_leaf (h : (rowV A v).length = 0) : txtV A t v = headV A v := by
  cases t with
  | zero => rfl
  | succ t => rw [txtV, if_pos h]
theorem txtV_succ (h : ¬ (rowV A v).length = 0) : txtV A (t + 1) v = headV A v ++ (brV (fun x => txtV A t x.toNat) (rowV A v) (rowV A v).length ++ [41]) := by rw [txtV, if_neg h]
theorem txtV_len (h : ¬ (rowV A v).length = 0) : (txtV A (t + 1) v).length = 4 + 3 * (rowV A v).length + smV (fun x => (txtV A t x.toNat).length) (rowV A v) (rowV A v).length := by
  rw [txtV_succ h, List.length_append, List.length_append, brV_len]
  simp only [headV, List.length_cons, List.length_nil]
  omega
theorem txtV_pos : 3 ≤ (txtV A t v).length := by
  cases t with
  | zero => exact Nat.le_refl _
  | succ t =>
    by_cases h : (rowV A v).length = 0
    · rw [txtV_leaf h]; exact Nat.le_refl _
    · rw [txtV_len h]; omega
theorem txtV_kid (h : k < (rowV A v).length) : (txtV A t ((rowV A v).getD k (0, 0)).1.toNat).length ≤ (txtV A (t + 1) v).length := by
  rw [txtV_len (by omega)]
  have := smV_ge (f := fun x => (txtV A t x.toNat).length) (es := rowV A v) h
  omega
end
/-- The program's amounts. -/
def whV (d parts : Int) : Int := if 0 < d then 3 + parts + 2 * d + (d - 1) + 2 else 3
def sumA (am : List Int) (es : List (Int × Int)) : Nat → Int
  | 0 => 0
  | k + 1 => sumA am es k + am.getD (es.getD k (0, 0)).1.toNat 0
def amtV (A : Net) : Nat → List Int
  | 0 => List.replicate A.ends.length 3
  | t + 1 => (List.range A.ends.length).map fun v => min (whV ((rowV A v).length : Int) (sumA (amtV A t) (rowV A v) (rowV A v).length)) 4001
section
variable {A : Net} {es : List (Int × Int)} {k t v : Nat}
theorem amtV_len : (amtV A t).length = A.ends.length := by cases t <;> simp [amtV]
theorem amtV_succ (h : v < A.ends.length) : (amtV A (t + 1)).getD v 0 = min (whV ((rowV A v).length : Int) (sumA (amtV A t) (rowV A v) (rowV A v).length)) 4001 := by
  rw [getD_eq (by rw [amtV_len]; exact h)]
  simp [amtV]
theorem sumA_min {am : List Int} {f : Int → Nat} (h : ∀ j, j < k → am.getD (es.getD j (0, 0)).1.toNat 0 = min (f (es.getD j (0, 0)).1 : Int) 4001) : (0 ≤ sumA am es k ∧ sumA am es k ≤ 4001 * k) ∧ ∀ c : Int, 0 ≤ c → min (sumA am es k + c) 4001 = min ((smV f es k : Int) + c) 4001 := by
  induction k with
  | zero => exact ⟨⟨Int.le_refl _, Int.le_refl _⟩, fun c _ => by simp [sumA, smV]⟩
  | succ k ih =>
    obtain ⟨⟨h1, h2⟩, h3⟩ := ih fun j hj => h j (by omega)
    have h4 := h k (by omega)
    simp only [sumA, smV, h4]
    refine ⟨by omega, fun c hc => ?_⟩
    have h5 := h3 (min (f (es.getD k (0, 0)).1 : Int) 4001 + c) (by omega)
    omega
theorem amtV_at (hk : ∀ v, v < A.ends.length → ∀ k, k < (rowV A v).length → ((rowV A v).getD k (0, 0)).1.toNat < A.ends.length) : ∀ t v, v < A.ends.length → (amtV A t).getD v 0 = min ((txtV A t v).length : Int) 4001 := by
  intro t
  induction t with
  | zero => intro v hv; rw [getD_eq (by rw [amtV_len]; exact hv)]; simp [amtV, txtV, headV]; omega
  | succ t ih =>
    intro v hv
    rw [amtV_succ hv]
    obtain ⟨h1, h2⟩ := sumA_min (am := amtV A t) (f := fun x => (txtV A t x.toNat).length) (es := rowV A v) (k := (rowV A v).length) fun j hj => ih _ (hk v hv j hj)
    by_cases h : (rowV A v).length = 0
    · rw [txtV_leaf h, h]; simp [whV, headV]
    · rw [txtV_len h]
      unfold whV
      rw [if_pos (by omega)]
      have h3 := h2 (4 + 3 * ((rowV A v).length : Int)) (by omega)
      omega
theorem amtV_in (hk : ∀ v, v < A.ends.length → ∀ k, k < (rowV A v).length → ((rowV A v).getD k (0, 0)).1.toNat < A.ends.length) (hv : v < A.ends.length) : 0 ≤ (amtV A t).getD v 0 ∧ (amtV A t).getD v 0 ≤ 4001 := by
  rw [amtV_at hk t v hv]; omega
theorem sumA_in {am : List Int} (h : ∀ j, j < k → 0 ≤ am.getD (es.getD j (0, 0)).1.toNat 0 ∧ am.getD (es.getD j (0, 0)).1.toNat 0 ≤ 4001) : 0 ≤ sumA am es k ∧ sumA am es k ≤ 4001 * k := by
  induction k with
  | zero => exact ⟨Int.le_refl _, Int.le_refl _⟩
  | succ k ih =>
    have h1 := ih fun j hj => h j (by omega)
    have h2 := h k (by omega)
    simp only [sumA]
    omega
end
/-- The reference's texts: too long ones are empty. -/
def shV (l : List UInt8) : List UInt8 := if l.length ≤ 4000 then l else []
def txS (A : Net) (t : Nat) : List (List UInt8) := (List.range A.ends.length).map fun v => shV (txtV A t v)
def lngV (ts : List (List UInt8)) (es : List (Int × Int)) : Nat → Bool
  | 0 => false
  | k + 1 => lngV ts es k || decide (ts.getD (es.getD k (0, 0)).1.toNat [] = [])
def brS (ts : List (List UInt8)) (es : List (Int × Int)) (k : Nat) : List UInt8 := brV (fun x => ts.getD x.toNat []) es k
section
variable {A : Net} {es : List (Int × Int)} {k t v : Nat} {ts : List (List UInt8)}
theorem shV_len {l : List UInt8} : (shV l).length ≤ 4000 := by
  unfold shV
  split
  · assumption
  · exact Nat.zero_le _
theorem txS_len : (txS A t).length = A.ends.length := by simp [txS]
theorem txS_at (h : v < A.ends.length) : (txS A t).getD v [] = shV (txtV A t v) := by rw [getD_eq (by rw [txS_len]; exact h)]; simp [txS]
theorem txS_get (h : v < (txS A t).length) : (txS A t)[v] = shV (txtV A t v) := by simp [txS]
theorem lngV_false : lngV ts es k = false ↔ ∀ j, j < k → ts.getD (es.getD j (0, 0)).1.toNat [] ≠ [] := by
  induction k with
  | zero => simp [lngV]
  | succ k ih =>
    simp only [lngV, Bool.or_eq_false_iff, ih, decide_eq_false_iff_not]
    exact ⟨fun ⟨h1, h2⟩ j hj => by
      by_cases e : j = k
      · subst e; exact h2
      · exact h1 j (by omega), fun h => ⟨fun j hj => h j (by omega), h k (by omega)⟩⟩
theorem shV_nil {l : List UInt8} (h : 3 ≤ l.length) : shV l = [] ↔ 4000 < l.length := by
  unfold shV
  split
  · rename_i h1
    exact ⟨fun e => by rw [e] at h; simp at h, fun e => by omega⟩
  · exact ⟨fun _ => by omega, fun _ => rfl⟩
theorem shV_eq {l : List UInt8} (h : l.length ≤ 4000) : shV l = l := if_pos h
/-- The reference's next text of a node. -/
theorem txS_step (hk : ∀ k, k < (rowV A v).length → ((rowV A v).getD k (0, 0)).1.toNat < A.ends.length) {s : List UInt8} (hs : s = if (rowV A v).length = 0 then headV A v else headV A v ++ (brS (txS A t) (rowV A v) (rowV A v).length ++ [41])) :
    (if lngV (txS A t) (rowV A v) (rowV A v).length = true ∨ 4000 < s.length then [] else s) = shV (txtV A (t + 1) v) := by
  subst hs
  by_cases h : (rowV A v).length = 0
  · rw [if_pos h, txtV_leaf h, h]
    simp [lngV, shV, headV]
  · rw [if_neg h]
    by_cases hl : lngV (txS A t) (rowV A v) (rowV A v).length = true
    · rw [if_pos (.inl hl)]
      refine ((shV_nil txtV_pos).2 ?_).symm
      refine Classical.byContradiction fun hno => ?_
      have : lngV (txS A t) (rowV A v) (rowV A v).length = false := lngV_false.2 fun j hj => by
        rw [txS_at (hk j hj)]
        intro e
        have h1 := (shV_nil txtV_pos).1 e
        have h2 := txtV_kid (A := A) (t := t) hj
        omega
      rw [this] at hl; cases hl
    · have hl' := lngV_false.1 (by simpa using hl)
      have e : brS (txS A t) (rowV A v) (rowV A v).length = brV (fun x => txtV A t x.toNat) (rowV A v) (rowV A v).length := brV_congr fun j hj => by
        have h1 := hl' j hj
        rw [txS_at (hk j hj)] at h1 ⊢
        exact shV_eq (Classical.byContradiction fun hno => h1 ((shV_nil txtV_pos).2 (by omega)))
      rw [e, ← txtV_succ h]
      unfold shV
      by_cases h4 : (txtV A (t + 1) v).length ≤ 4000
      · rw [if_pos h4, if_neg]
        intro h5
        rcases h5 with h5 | h5
        · exact hl h5
        · omega
      · rw [if_neg h4, if_pos (.inr (by omega))]
theorem brS_len (h : ∀ l ∈ ts, l.length ≤ 4000) : (brS ts es k).length ≤ 4003 * k := by
  unfold brS
  rw [brV_len]
  have := smV_le (f := fun x => (ts.getD x.toNat []).length) (es := es) (k := k) (M := 4000) fun j _ => by
    by_cases hj : (es.getD j (0, 0)).1.toNat < ts.length
    · rw [getD_eq hj]; exact h _ (List.getElem_mem hj)
    · rw [show ts.getD (es.getD j (0, 0)).1.toNat [] = [] by rw [List.getD, List.getElem?_eq_none (Nat.le_of_not_lt hj)]; rfl]; exact Nat.zero_le _
  omega
theorem txS_short : ∀ l ∈ txS A t, l.length ≤ 4000 := by
  intro l hl
  obtain ⟨v, _, rfl⟩ := List.mem_map.1 hl
  exact shV_len
end
/-- What ViewText returns. -/
def VTOk (A : Net) (v d : Int) : Prop := (NOk A ∧ HasNode A v) ∧ (0 ≤ d ∧ d ≤ 80) ∧ (txtV A d.toNat v.toNat).length ≤ 4000

end Go.Proofs.Yticlopepmnlkmaa
