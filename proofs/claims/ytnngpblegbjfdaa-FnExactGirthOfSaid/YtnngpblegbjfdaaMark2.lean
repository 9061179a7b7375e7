/- Marks on results [][]int, exact. -/
import Derived.Test.YtnngpblegbjfdaaMarkI
import Derived.Test.YtnngpblegbjfdaaRowsH
import Derived.Test.YtnngpblegbjfdaaBfs
namespace Go.Proofs.Ytnngpblegbjfdaa
open Go Go.RowKit

def sumL (xss : List (List Int)) : Nat := (xss.map List.length).sum
theorem sumL_succ {xss : List (List Int)} {i : Nat} (h : i < xss.length) : sumL (xss.take (i + 1)) = sumL (xss.take i) + xss[i].length := by
  rw [← List.take_append_getElem h]; simp only [sumL, List.map_append, List.sum_append, List.map_cons, List.map_nil, List.sum_cons, List.sum_nil, Nat.add_zero]
theorem sumL_le {xss : List (List Int)} (i : Nat) : sumL (xss.take i) ≤ sumL xss := by
  have e : sumL (xss.take i ++ xss.drop i) = sumL (xss.take i) + sumL (xss.drop i) := by simp only [sumL, List.map_append, List.sum_append]
  rw [List.take_append_drop] at e
  omega
theorem sumL_row {xss : List (List Int)} {i : Nat} (h : i < xss.length) : xss[i].length ≤ sumL xss := by
  have h1 := sumL_succ h; have h2 := sumL_le (xss := xss) (i + 1); omega
/-- The marks that rows get. -/
def numss (k : Int) (xss : List (List Int)) : List (List Int) := (List.range xss.length).map fun i => nums (k + (sumL (xss.take i) : Int)) (xss.getD i []).length
theorem numss_len (k : Int) (xss : List (List Int)) : (numss k xss).length = xss.length := by simp [numss]
theorem numss_at {k : Int} {xss : List (List Int)} {i : Nat} (h : i < xss.length) {h2 : i < (numss k xss).length} : (numss k xss)[i] = nums (k + (sumL (xss.take i) : Int)) xss[i].length := by simp only [numss, List.getElem_map, List.getElem_range]; rw [getD_eq h]
/-- X up to i, Y from there on. -/
def mxl {α : Type} (X Y : List α) (i : Nat) : List α := X.take i ++ Y.drop i
theorem mxl_len {α : Type} {X Y : List α} {i : Nat} (h : X.length = Y.length) : (mxl X Y i).length = Y.length := by simp [mxl]; omega
theorem mxl_at {α : Type} {X Y : List α} {i : Nat} (h : X.length = Y.length) (hi : i < Y.length) {h2 : i < (mxl X Y i).length} : (mxl X Y i)[i] = Y[i] := by
  simp only [mxl]
  rw [List.getElem_append_right (by simp; omega)]
  simp [show min i X.length = i by omega]
theorem mxl_put {α : Type} {X Y : List α} {i : Nat} (h : X.length = Y.length) (hi : i < Y.length) {hX : i < X.length} : (mxl X Y i).set i X[i] = mxl X Y (i + 1) := by
  simp only [mxl]
  rw [List.set_append_right _ _ (by simp; omega)]
  rw [show i - (X.take i).length = 0 by simp; omega, List.drop_eq_getElem_cons hi, List.set_cons_zero, ← List.take_append_getElem hX, List.append_assoc]
  rfl
theorem mxl_all {α : Type} {X Y : List α} (h : X.length = Y.length) : mxl X Y Y.length = X := by simp [mxl, ← h]
theorem rows_cell {l r c i : Nat} {w : World} {E G : TypeId} {a : Option Addr} {vs : List (Option Addr × Nat)} {xss : List (List Int)} {rest : List Value} (h : RowsAt l r w E G a c vs xss) (hv : i < vs.length) (hi : i < xss.length) : ((vs.zip xss).map (fun p => rowVal p.1 p.2) ++ rest)[i]? = some (.slice vs[i].1 xss[i].length vs[i].2) := by
  rw [List.getElem?_append_left (by simp; omega), List.getElem?_eq_getElem (by simp; omega)]
  simp [rowVal]

theorem numss_self {k : Int} {xss : List (List Int)} {i : Nat} (h : i < xss.length) {h2 : i < (numss k xss).length} : (numss k xss)[i] = nums (k + (sumL (xss.take i) : Int)) ((numss k xss)[i]).length := by rw [numss_at h, nums_len]

theorem sumL_bd {xss : List (List Int)} {B : Nat} (h : ∀ x ∈ xss, x.length ≤ B) : sumL xss ≤ xss.length * B := by
  induction xss with
  | nil => simp [sumL]
  | cons x r ih =>
    have h1 := ih fun y hy => h y (List.mem_cons_of_mem _ hy)
    have h2 := h x (List.mem_cons_self ..)
    have e : sumL (x :: r) = x.length + sumL r := rfl
    rw [e, List.length_cons, Nat.add_mul, Nat.one_mul]
    omega
theorem totL_sum (xss : List (List Int)) : totL xss = xss.length + sumL xss := rfl

end Go.Proofs.Ytnngpblegbjfdaa
