/- Marks on results [][]int, exact. -/
import Derived.Test.YtladejfcplpnaaaMarkI
import Derived.Test.YtladejfcplpnaaaRowsH
import Derived.Test.YtladejfcplpnaaaBfs
namespace Go.Proofs.Ytladejfcplpnaaa
open Go Go.RowKit

def sumL (xss : List (List Int)) : Nat := (xss.map List.length).sum
theorem sumL_succ {xss : List (List Int)} {i : Nat} (h : i < xss.length) : sumL (xss.take (i + 1)) = sumL (xss.take i) + xss[i].length := by
  rw [← List.take_append_getElem h]; simp only [sumL, List.map_append, List.sum_append, List.map_cons, List.map_nil, List.sum_cons, List.sum_nil, Nat.add_zero]
theorem sumL_le {xss : List (List Int)} (i : Nat) : sumL (xss.take i) ≤ sumL xss := by
  have e : sumL (xss.take i ++ xss.drop i) = sumL (xss.take i) + sumL (xss.drop i) := by simp only [sumL, List.map_append, List.sum_append]
  rw [List.take_append_drop] at e
  omega
theorem sumL_row {xss : List (List Int)} {i : Nat} (h : i < xss.length) : xss[i].length ≤ sumL xss := by
  have h1 := sumL_succ h; have h2 := sumL_le (xss := xss) (i + 1); omega
/-- The marks that rows get. -/
def numss (k : Int) (xss : List (List Int)) : List (List Int) := (List.range xss.length).map fun i => nums (k + (sumL (xss.take i) : Int)) (xss.getD i []).length
theorem numss_len (k : Int) (xss : List (List Int)) : (numss k xss).length = xss.length := by simp [numss]
theorem numss_at {k : Int} {xss : List (List Int)} {i : Nat} (h : i < xss.length) {h2 : i < (numss k xss).length} : (numss k xss)[i] = nums (k + (sumL (xss.take i) : Int)) xss[i].length := by simp only [numss, List.getElem_map, List.getElem_range]; rw [getD_eq h]
/-- X up to i, Y from there on. -/
def mxl {α : Type} (X Y : List α) (i : Nat) : List α := X.take i ++ Y.drop i
theorem mxl_len {α : Type} {X Y : List α} {i : Nat} (h : X.length = Y.length) : (mxl X Y i).length = Y.length := by simp [mxl]; omega
theorem mxl_at {α : Type} {X Y : List α} {i : Nat} (h : X.length = Y.length) (hi : i < Y.length) {h2 : i < (mxl X Y i).length} : (mxl X Y i)[i] = Y[i] := by
  simp only [mxl]
  rw [List.getElem_append_right (by simp; omega)]
  simp [show min i X.length = i by omega]
theorem mxl_put {α : Type} {X Y : List α} {i : Nat} (h : X.length = Y.length) (hi : i < Y.length) {hX : i < X.length} : (mxl X Y i).set i X[i] = mxl X Y (i + 1) := by
  simp only [mxl]
  rw [List.set_append_right _ _ (by simp; omega)]
  rw [show i - (X.take i).length = 0 by simp; omega, List.drop_eq_getElem_cons hi, List.set_cons_zero, ← List.take_append_getElem hX, List.append_assoc]
  rfl
theorem mxl_all {α : Type} {X Y : List α} (h : X.length = Y.length) : mxl X Y Y.length = X := by simp [mxl, ← h]
theorem rows_cell {l r c i : Nat} {w : World} {E G : TypeId} {a : Option Addr} {vs : List (Option Addr × Nat)} {xss : List (List Int)} {rest : List Value} (h : RowsAt l r w E G a c vs xss) (hv : i < vs.length) (hi : i < xss.length) : ((vs.zip xss).map (fun p => rowVal p.1 p.2) ++ rest)[i]? = some (.slice vs[i].1 xss[i].length vs[i].2) := by
  rw [List.getElem?_append_left (by simp; omega), List.getElem?_eq_getElem (by simp; omega)]
  simp [rowVal]

set_option maxRecDepth 100000 in
theorem markIntSS_rows {l r : Nat} (E : TypeId) (a : Option Addr) (c : Nat) (xss : List (List Int)) (k : Int) (w : World) (hR : RowsH l r w E a c xss) (hr : r ≤ w.heap.size) (hk : 0 ≤ k ∧ k ≤ 562949953421312) (hs : sumL xss ≤ 1048576) (hn : xss.length ≤ 1048576) :
    Fn Try.prog 15 #[.slice a xss.length c, VI k] w (fun v w' => v = VI (k + (sumL xss : Int)) ∧ RowsH l r w' E a c (numss k xss) ∧ Rg l r 0 0 w w') := by
  have hnl := numss_len k xss
  refine Fn_of Try.func15 rfl rfl (by kernel_rfl) rfl ?_
  refine W_seq ?_
  refine W_region ?_
  refine WL_q rfl (ev_assign rfl) ?_
  refine WL_nil ?_
  refine thenE_n ?_
  refine W_seq ?_
  refine W_seq ?_
  refine W_region ?_
  refine WL_q rfl (ev_assign rfl) ?_
  refine WL_nil ?_
  refine thenE_n ?_
  refine W_block ?_
  refine W_loopC (G := Nat) [(0, _)] ((Subs.c rfl Subs.n)) (fun i => [(1, VI (k + (sumL (xss.take i) : Int))), (5, VI (i : Int))]) (fun i w' => Rg l r 0 0 w w' ∧ i ≤ xss.length ∧ RowsH l r w' E a c (mxl (numss k xss) xss i)) (fun i => xss.length - i) 0 ((Subs.c (lkI rfl (by simp [sumL])) (Subs.c (lkI rfl (by omega)) Subs.n))) (⟨Rg.refl, ⟨by omega, hR⟩⟩) ?_
  rintro i wL0 ⟨hRL0, hi', hRi⟩
  have hzL0 := hRL0.size
  refine W_seq ?_
  refine W_seq ?_
  refine W_region ?_
  refine WL_q rfl (ev_move rfl) ?_
  refine WL_q rfl (ev_move rfl) ?_
  refine WL_q rfl (ev_len Try.underlying26 rfl) ?_
  refine WL_q rfl (ev_lss rfl rfl) ?_
  refine WL_nil ?_
  refine thenE_n ?_
  refine W_cond rfl (fun hg9 => ?_) (fun hg9 => ?_)
  · have hp9 := of_decide_eq_true hg9
    refine W_skip ?_
    refine thenE_n ?_
    refine W_seq ?_
    refine W_block ?_
    refine W_region ?_
    refine WL_q rfl (ev_move rfl) ?_
    refine WL_q rfl (ev_move rfl) ?_
    have hlt : i < xss.length := by omega
    obtain ⟨G, vs, hA⟩ := hRi
    have hml := mxl_len (i := i) hnl
    have hvl := hA.len
    have hv : i < vs.length := by omega
    have hx : i < (mxl (numss k xss) xss i).length := by omega
    have hat := mxl_at (i := i) hnl hlt (h2 := hx)
    have hsl := sumL_le (xss := xss) i
    have hsr := sumL_row hlt
    have hs9 := sumL_succ hlt
    have hrl : ((mxl (numss k xss) xss i)[i]).length = xss[i].length := by rw [hat]
    have hOr := hA.row i hv hx
    obtain ⟨g, rest, rfl, hg1, hB, hg2, hg3, hg4, hg5⟩ := hA.out.blk (by omega)
    refine WL_q rfl (ev_indexAddr Try.underlying26 sz23 rfl rfl rfl (by omega) (by omega)) ?_
    refine WL_q rfl (ev_load one23 rfl (hB.cellAt (rows_cell hA hv hx) (by simp))) ?_
    refine WL_q rfl (ev_move rfl) ?_
    refine WL_m rfl (ev_call rfl (markIntS_own hOr (by omega) (by omega))) ?_
    rintro _ w17 ⟨rfl, hO17, hK17⟩
    have hz17 := hK17.size
    replace hRL0 := hRL0.app hK17 (fun q hq => .inl ⟨((hA.row i hv hx).block q hq).1, hA.top i hv q hq, .inl (Nat.le_refl _)⟩)
    replace hOr := hO17
    have hA2 := hA.set hv hx (by rw [nums_len]) hK17 hO17 (by omega)
    rw [hrl, ← numss_at hlt (h2 := by omega), mxl_put hnl hlt] at hA2
    refine WL_q rfl (ev_assign rfl) ?_
    refine WL_nil ?_
    refine blockE_n ?_
    refine thenE_n ?_
    refine W_region ?_
    refine WL_q rfl (ev_move rfl) ?_
    refine WL_q rfl (ev_add rfl rfl (by omega)) ?_
    refine WL_q rfl (ev_assign rfl) ?_
    refine WL_nil ?_
    refine thenE_n ?_
    exact ⟨i + 1, (Subs.c rfl Subs.n), (Subs.c (lkI rfl (by omega)) (Subs.c (lkI rfl (by omega)) Subs.n)), ⟨hRL0, ⟨by omega, _, _, hA2⟩⟩, by first | omega | (dsimp only; omega)⟩
  · have hp9 := of_decide_eq_false hg9
    refine W_exit ?_
    refine thenE_x ?_
    refine thenE_x ?_
    refine blockE_hit ?_
    refine thenE_n ?_
    refine W_seq ?_
    refine W_region ?_
    refine WL_q rfl (ev_move rfl) ?_
    refine WL_q rfl (ev_assign rfl) ?_
    refine WL_nil ?_
    refine thenE_n ?_
    refine W_ret ?_
    refine ret1 rfl rfl ?_
    have hi9 : i = xss.length := by omega
    subst hi9; refine ⟨by rw [List.take_length], ?_, hRL0⟩; rw [mxl_all hnl] at hRi; exact hRi

theorem numss_self {k : Int} {xss : List (List Int)} {i : Nat} (h : i < xss.length) {h2 : i < (numss k xss).length} : (numss k xss)[i] = nums (k + (sumL (xss.take i) : Int)) ((numss k xss)[i]).length := by rw [numss_at h, nums_len]

theorem sumL_bd {xss : List (List Int)} {B : Nat} (h : ∀ x ∈ xss, x.length ≤ B) : sumL xss ≤ xss.length * B := by
  induction xss with
  | nil => simp [sumL]
  | cons x r ih =>
    have h1 := ih fun y hy => h y (List.mem_cons_of_mem _ hy)
    have h2 := h x (List.mem_cons_self ..)
    have e : sumL (x :: r) = x.length + sumL r := rfl
    rw [e, List.length_cons, Nat.add_mul, Nat.one_mul]
    omega
theorem totL_sum (xss : List (List Int)) : totL xss = xss.length + sumL xss := rfl

end Go.Proofs.Ytladejfcplpnaaa
