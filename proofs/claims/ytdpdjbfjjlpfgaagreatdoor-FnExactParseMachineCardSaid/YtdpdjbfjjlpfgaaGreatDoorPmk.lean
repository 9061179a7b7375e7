/- Marks on a machine that a call owns, exact. -/
import Derived.Test.YtdpdjbfjjlpfgaaGreatDoorPhold
import Derived.Test.YtdpdjbfjjlpfgaaGreatDoorMark0
import Derived.Test.YtdpdjbfjjlpfgaaGreatDoorBfs
namespace Go.Proofs.YtdpdjbfjjlpfgaaGreatDoor
open Go Go.RowKit

set_option maxRecDepth 100000 in
theorem markIntS_blk (g : Nat) (T : TypeId) (cs : List Value) (n c : Nat) (k : Int) (w : World) (hB : Blk w g T cs) (hl : n ≤ cs.length) (hk : 0 ≤ k ∧ k ≤ 1125899906842624) (hn : n ≤ 1048576) :
    Fn Tryz.prog 24 #[.slice (some ⟨g, 0, none⟩) n c, VI k] w (fun v w' => v = VI (k + (n : Int)) ∧ Blk w' g T (mix k cs n) ∧ KX g w w') := by
  refine Fn_of Tryz.func24 rfl rfl (by kernel_rfl) rfl ?_
  refine W_seq ?_
  refine W_region ?_
  refine WL_q rfl (ev_assign rfl) ?_
  refine WL_nil ?_
  refine thenE_n ?_
  refine W_seq ?_
  refine W_seq ?_
  refine W_region ?_
  refine WL_q rfl (ev_assign rfl) ?_
  refine WL_nil ?_
  refine thenE_n ?_
  refine W_block ?_
  refine W_loopC (G := Nat) [(0, _)] ((Subs.c rfl Subs.n)) (fun i => [(1, VI (k + (i : Int))), (5, VI (i : Int))]) (fun i w' => KX (g) w w' ∧ i ≤ n ∧ Blk w' g T (mix k cs i)) (fun i => n - i) 0 ((Subs.c (lkI rfl (by omega)) (Subs.c (lkI rfl (by omega)) Subs.n))) (⟨KX.refl _ _, ⟨by omega, by rw [mix_zero]; exact hB⟩⟩) ?_
  rintro i wL0 ⟨hRL0, hi', hBi⟩
  have hzL0 := hRL0.size
  refine W_seq ?_
  refine W_seq ?_
  refine W_region ?_
  refine WL_q rfl (ev_move rfl) ?_
  refine WL_q rfl (ev_move rfl) ?_
  refine WL_q rfl (ev_len Tryz.underlying24 rfl) ?_
  refine WL_q rfl (ev_lss rfl rfl) ?_
  refine WL_nil ?_
  refine thenE_n ?_
  refine W_cond rfl (fun hg9 => ?_) (fun hg9 => ?_)
  · have hp9 := of_decide_eq_true hg9
    refine W_skip ?_
    refine thenE_n ?_
    refine W_seq ?_
    refine W_block ?_
    refine W_seq ?_
    refine W_region ?_
    refine WL_q rfl (ev_move rfl) ?_
    refine WL_q rfl (ev_move rfl) ?_
    refine WL_q rfl (ev_move rfl) ?_
    refine WL_q rfl (ev_indexAddr Tryz.underlying24 sz3 rfl rfl rfl (by omega) (by omega)) ?_
    refine WL_s (ev_store sz3 rfl rfl rfl hBi (by have := mix_len (k := k) (cs := cs) (i := i) (by omega); omega)) ?_
    rintro _ w4_4 hS4_4
    have hz4_4 := hS4_4.size
    replace hRL0 := hRL0.sto hS4_4 (by omega)
    replace hBi := hS4_4.blk
    refine WL_nil ?_
    refine thenE_n ?_
    refine W_region ?_
    refine WL_q rfl (ev_move rfl) ?_
    refine WL_q rfl (ev_add rfl rfl (by omega)) ?_
    refine WL_q rfl (ev_assign rfl) ?_
    refine WL_nil ?_
    refine blockE_n ?_
    refine thenE_n ?_
    refine W_region ?_
    refine WL_q rfl (ev_move rfl) ?_
    refine WL_q rfl (ev_add rfl rfl (by omega)) ?_
    refine WL_q rfl (ev_assign rfl) ?_
    refine WL_nil ?_
    refine thenE_n ?_
    exact ⟨i + 1, (Subs.c rfl Subs.n), (Subs.c (lkI rfl (by omega)) (Subs.c (lkI rfl (by omega)) Subs.n)), ⟨hRL0, ⟨by omega, mix_put (by omega) (by omega) (by omega) hBi⟩⟩, by first | omega | (dsimp only; omega)⟩
  · have hp9 := of_decide_eq_false hg9
    refine W_exit ?_
    refine thenE_x ?_
    refine thenE_x ?_
    refine blockE_hit ?_
    refine thenE_n ?_
    refine W_seq ?_
    refine W_region ?_
    refine WL_q rfl (ev_move rfl) ?_
    refine WL_q rfl (ev_assign rfl) ?_
    refine WL_nil ?_
    refine thenE_n ?_
    refine W_ret ?_
    refine ret1 rfl rfl ?_
    have hi9 : i = n := by omega
    subst hi9; exact ⟨rfl, hBi, hRL0⟩

set_option maxRecDepth 100000 in
theorem markIntS_nil (a : Option Addr) (c : Nat) (k : Int) (w : World) :
    Fn Tryz.prog 24 #[.slice a 0 c, VI k] w (fun v w' => v = VI k ∧ Ext w w') := by
  have hE := Ext.refl w
  refine Fn_of Tryz.func24 rfl rfl (by kernel_rfl) rfl ?_
  refine W_seq ?_
  refine W_region ?_
  refine WL_q rfl (ev_assign rfl) ?_
  refine WL_nil ?_
  refine thenE_n ?_
  refine W_seq ?_
  refine W_seq ?_
  refine W_region ?_
  refine WL_q rfl (ev_assign rfl) ?_
  refine WL_nil ?_
  refine thenE_n ?_
  refine W_block ?_
  refine W_loopC (G := Nat) [(0, _)] ((Subs.c rfl Subs.n)) (fun i => [(1, VI (k + (i : Int))), (5, VI (i : Int))]) (fun i w' => Ext w w' ∧ i = 0) (fun i => 0) 0 ((Subs.c (lkI rfl (by omega)) (Subs.c (lkI rfl (by omega)) Subs.n))) (⟨Ext.refl _, rfl⟩) ?_
  rintro i wL0 ⟨hRL0, hi0⟩
  have hzL0 := hRL0.size
  replace hE := hE.trans hRL0
  refine W_seq ?_
  refine W_seq ?_
  refine W_region ?_
  refine WL_q rfl (ev_move rfl) ?_
  refine WL_q rfl (ev_move rfl) ?_
  refine WL_q rfl (ev_len Tryz.underlying24 rfl) ?_
  refine WL_q rfl (ev_lss rfl rfl) ?_
  refine WL_nil ?_
  refine thenE_n ?_
  refine W_cond rfl (fun hg9 => ?_) (fun hg9 => ?_)
  · have hp9 := of_decide_eq_true hg9
    omega
  · have hp9 := of_decide_eq_false hg9
    refine W_exit ?_
    refine thenE_x ?_
    refine thenE_x ?_
    refine blockE_hit ?_
    refine thenE_n ?_
    refine W_seq ?_
    refine W_region ?_
    refine WL_q rfl (ev_move rfl) ?_
    refine WL_q rfl (ev_assign rfl) ?_
    refine WL_nil ?_
    refine thenE_n ?_
    refine W_ret ?_
    refine ret1 rfl rfl ?_
    subst hi0; exact ⟨by simp, hE⟩

theorem Blk.cellAt {w : World} {b i j : Nat} {T : TypeId} {cs : List Value} {v : Value} (h : Blk w b T cs) (hv : cs[i]? = some v) (hj : j = i) : w.cell? ⟨b, j, none⟩ = some v := by subst hj; exact h.cell hv
theorem markIntS_own {lo n c : Nat} {E : TypeId} {a : Option Addr} {k : Int} {w : World} {xs : List Int} (hO : Own lo w E 1 a n c (xs.map VI)) (hk : 0 ≤ k ∧ k ≤ 1125899906842624) (hn : n ≤ 1048576) :
    Fn Tryz.prog 24 #[.slice a n c, VI k] w (fun v w' => v = VI (k + (n : Int)) ∧ Own lo w' E 1 a n c ((nums k n).map VI) ∧ Apd w w' a) := by
  rcases Nat.eq_zero_or_pos n with h0 | h0
  · subst h0
    refine (markIntS_nil a c k w).mono fun v w' hv => ⟨by rw [hv.1]; simp, ?_, hv.2.mono fun q hq => hq.1⟩
    have hl := hO.cap.2
    have e : xs.map VI = [] := List.eq_nil_of_length_eq_zero (by simpa using hl)
    have h1 := hO.ext hv.2
    rw [e] at h1
    simpa [nums] using h1
  · obtain ⟨g, rest, rfl, h1, hB, h2, h3, h4, h5⟩ := hO.blk h0
    refine (markIntS_blk g E _ n c k w hB (by omega) hk hn).mono fun v w' hv => ⟨hv.1, ?_, hv.2.2.mono fun q hq => ⟨hq.1, hq.2 _ rfl⟩⟩
    have e : mix k (xs.map VI ++ rest) n = (nums k n).map VI ++ rest := by
      unfold mix
      rw [List.drop_append_of_le_length (by omega), List.drop_of_length_le (by omega), List.nil_append]
    have hB' := hv.2.1
    rw [e] at hB'
    have hl := congrArg List.length e
    rw [mix_len (by omega)] at hl
    exact Own.of_blk hB' h1 h2 h3 (by omega) (by simp [nums_len])

set_option maxRecDepth 100000 in
theorem heldIntS_spec {lo hi n : Nat} (a : Option Addr) (c : Nat) (xs : List Int) (k : Int) (w : World) (hx : Ints lo hi w a c xs) (hl : xs = nums k n) (hk : 0 ≤ k ∧ k ≤ 1125899906842624) (hn : n ≤ 1048576) :
    Fn Tryz.prog 27 #[.slice a n c, VI k] w (fun v w' => v = VI (k + (n : Int)) ∧ Ext w w') := by
  subst hl
  have hnl := nums_len k n
  have hE := Ext.refl w
  refine Fn_of Tryz.func27 rfl rfl (by kernel_rfl) rfl ?_
  refine W_seq ?_
  refine W_region ?_
  refine WL_q rfl (ev_assign rfl) ?_
  refine WL_nil ?_
  refine thenE_n ?_
  refine W_seq ?_
  refine W_seq ?_
  refine W_region ?_
  refine WL_q rfl (ev_assign rfl) ?_
  refine WL_nil ?_
  refine thenE_n ?_
  refine W_block ?_
  refine W_loopC (G := Nat) [(0, _)] ((Subs.c rfl Subs.n)) (fun i => [(1, VI (k + (i : Int))), (5, VI (i : Int))]) (fun i w' => Ext w w' ∧ i ≤ n) (fun i => n - i) 0 ((Subs.c (lkI rfl (by omega)) (Subs.c (lkI rfl (by omega)) Subs.n))) (⟨Ext.refl _, Nat.zero_le _⟩) ?_
  rintro i wL0 ⟨hRL0, hi'⟩
  have hzL0 := hRL0.size
  replace hE := hE.trans hRL0
  replace hx := hx.ext hRL0
  refine W_seq ?_
  refine W_seq ?_
  refine W_region ?_
  refine WL_q rfl (ev_move rfl) ?_
  refine WL_q rfl (ev_move rfl) ?_
  refine WL_q rfl (ev_len Tryz.underlying24 rfl) ?_
  refine WL_q rfl (ev_lss rfl rfl) ?_
  refine WL_nil ?_
  refine thenE_n ?_
  refine W_cond rfl (fun hg9 => ?_) (fun hg9 => ?_)
  · have hp9 := of_decide_eq_true hg9
    refine W_skip ?_
    refine thenE_n ?_
    refine W_seq ?_
    refine W_block ?_
    refine W_seq ?_
    refine W_seq ?_
    refine W_region ?_
    refine WL_q rfl (ev_move rfl) ?_
    refine WL_q rfl (ev_move rfl) ?_
    have hlt : i < (nums k n).length := by omega
    have hng := nums_get hlt
    refine WL_q rfl (ev_indexAddr Tryz.underlying24 sz3 rfl rfl (hx.isSome (by omega)) (by omega) (by omega)) ?_
    refine WL_q rfl (ev_load one3 rfl (hx.cell hlt)) ?_
    refine WL_q rfl (ev_move rfl) ?_
    refine WL_q rfl (ev_neq rfl rfl) ?_
    refine WL_nil ?_
    refine thenE_n ?_
    refine W_cond rfl (fun hg17 => ?_) (fun hg17 => ?_)
    · have hp17 := of_decide_eq_true hg17
      refine W_seq ?_
      refine W_region ?_
      refine WL_q rfl (ev_assign rfl) ?_
      refine WL_nil ?_
      refine thenE_n ?_
      refine W_ret ?_
      refine thenE_r ?_
      refine blockE_r ?_
      refine thenE_r ?_
      refine thenE_r ?_
      refine blockE_r ?_
      refine thenE_r ?_
      refine ret1 rfl rfl ?_
      first | (exact absurd hng hp17) | (exact ⟨vi (by omega), hE⟩)
    · have hp17 := of_decide_eq_false hg17
      refine W_skip ?_
      refine thenE_n ?_
      refine W_region ?_
      refine WL_q rfl (ev_move rfl) ?_
      refine WL_q rfl (ev_add rfl rfl (by omega)) ?_
      refine WL_q rfl (ev_assign rfl) ?_
      refine WL_nil ?_
      refine blockE_n ?_
      refine thenE_n ?_
      refine W_region ?_
      refine WL_q rfl (ev_move rfl) ?_
      refine WL_q rfl (ev_add rfl rfl (by omega)) ?_
      refine WL_q rfl (ev_assign rfl) ?_
      refine WL_nil ?_
      refine thenE_n ?_
      exact ⟨i + 1, (Subs.c rfl Subs.n), (Subs.c (lkI rfl (by omega)) (Subs.c (lkI rfl (by omega)) Subs.n)), ⟨hRL0, by omega⟩, by first | omega | (dsimp only; omega)⟩
  · have hp9 := of_decide_eq_false hg9
    refine W_exit ?_
    refine thenE_x ?_
    refine thenE_x ?_
    refine blockE_hit ?_
    refine thenE_n ?_
    refine W_seq ?_
    refine W_region ?_
    refine WL_q rfl (ev_move rfl) ?_
    refine WL_q rfl (ev_assign rfl) ?_
    refine WL_nil ?_
    refine thenE_n ?_
    refine W_ret ?_
    refine ret1 rfl rfl ?_
    first | (exact absurd hng hp17) | (exact ⟨vi (by omega), hE⟩)

def sumL (xss : List (List Int)) : Nat := (xss.map List.length).sum
theorem sumL_succ {xss : List (List Int)} {i : Nat} (h : i < xss.length) : sumL (xss.take (i + 1)) = sumL (xss.take i) + xss[i].length := by
  rw [← List.take_append_getElem h]; simp only [sumL, List.map_append, List.sum_append, List.map_cons, List.map_nil, List.sum_cons, List.sum_nil, Nat.add_zero]
theorem sumL_le {xss : List (List Int)} (i : Nat) : sumL (xss.take i) ≤ sumL xss := by
  have e : sumL (xss.take i ++ xss.drop i) = sumL (xss.take i) + sumL (xss.drop i) := by simp only [sumL, List.map_append, List.sum_append]
  rw [List.take_append_drop] at e
  omega
theorem sumL_row {xss : List (List Int)} {i : Nat} (h : i < xss.length) : xss[i].length ≤ sumL xss := by
  have h1 := sumL_succ h; have h2 := sumL_le (xss := xss) (i + 1); omega
/-- The marks that rows get. -/
def numss (k : Int) (xss : List (List Int)) : List (List Int) := (List.range xss.length).map fun i => nums (k + (sumL (xss.take i) : Int)) (xss.getD i []).length
theorem numss_len (k : Int) (xss : List (List Int)) : (numss k xss).length = xss.length := by simp [numss]
theorem numss_at {k : Int} {xss : List (List Int)} {i : Nat} (h : i < xss.length) {h2 : i < (numss k xss).length} : (numss k xss)[i] = nums (k + (sumL (xss.take i) : Int)) xss[i].length := by simp only [numss, List.getElem_map, List.getElem_range]; rw [getD_eq h]
/-- X up to i, Y from there on. -/
def mxl {α : Type} (X Y : List α) (i : Nat) : List α := X.take i ++ Y.drop i
theorem mxl_len {α : Type} {X Y : List α} {i : Nat} (h : X.length = Y.length) : (mxl X Y i).length = Y.length := by simp [mxl]; omega
theorem mxl_at {α : Type} {X Y : List α} {i : Nat} (h : X.length = Y.length) (hi : i < Y.length) {h2 : i < (mxl X Y i).length} : (mxl X Y i)[i] = Y[i] := by
  simp only [mxl]
  rw [List.getElem_append_right (by simp; omega)]
  simp [show min i X.length = i by omega]
theorem mxl_put {α : Type} {X Y : List α} {i : Nat} (h : X.length = Y.length) (hi : i < Y.length) {hX : i < X.length} : (mxl X Y i).set i X[i] = mxl X Y (i + 1) := by
  simp only [mxl]
  rw [List.set_append_right _ _ (by simp; omega)]
  rw [show i - (X.take i).length = 0 by simp; omega, List.drop_eq_getElem_cons hi, List.set_cons_zero, ← List.take_append_getElem hX, List.append_assoc]
  rfl
theorem mxl_all {α : Type} {X Y : List α} (h : X.length = Y.length) : mxl X Y Y.length = X := by simp [mxl, ← h]

theorem numss_self {k : Int} {xss : List (List Int)} {i : Nat} (h : i < xss.length) {h2 : i < (numss k xss).length} : (numss k xss)[i] = nums (k + (sumL (xss.take i) : Int)) ((numss k xss)[i]).length := by rw [numss_at h, nums_len]

set_option maxRecDepth 100000 in
theorem heldIntSS_spec {lo hi n : Nat} (a : Option Addr) (c : Nat) (xss : List (List Int)) (k : Int) (w : World) (hx : Intss lo hi w a c (numss k xss)) (hl : n = xss.length) (hk : 0 ≤ k ∧ k ≤ 562949953421312) (hs : sumL xss ≤ 1048576) (hn : xss.length ≤ 1048576) :
    Fn Tryz.prog 25 #[.slice a n c, VI k] w (fun v w' => v = VI (k + (sumL xss : Int)) ∧ Ext w w') := by
  subst hl
  have hnl := numss_len k xss
  have hE := Ext.refl w
  refine Fn_of Tryz.func25 rfl rfl (by kernel_rfl) rfl ?_
  refine W_seq ?_
  refine W_region ?_
  refine WL_q rfl (ev_assign rfl) ?_
  refine WL_nil ?_
  refine thenE_n ?_
  refine W_seq ?_
  refine W_seq ?_
  refine W_region ?_
  refine WL_q rfl (ev_assign rfl) ?_
  refine WL_nil ?_
  refine thenE_n ?_
  refine W_block ?_
  refine W_loopC (G := Nat) [(0, _)] ((Subs.c rfl Subs.n)) (fun i => [(1, VI (k + (sumL (xss.take i) : Int))), (5, VI (i : Int))]) (fun i w' => Ext w w' ∧ i ≤ xss.length) (fun i => xss.length - i) 0 ((Subs.c (lkI rfl (by simp [sumL])) (Subs.c (lkI rfl (by omega)) Subs.n))) (⟨Ext.refl _, Nat.zero_le _⟩) ?_
  rintro i wL0 ⟨hRL0, hi'⟩
  have hzL0 := hRL0.size
  replace hE := hE.trans hRL0
  replace hx := hx.ext hRL0
  refine W_seq ?_
  refine W_seq ?_
  refine W_region ?_
  refine WL_q rfl (ev_move rfl) ?_
  refine WL_q rfl (ev_move rfl) ?_
  refine WL_q rfl (ev_len Tryz.underlying22 rfl) ?_
  refine WL_q rfl (ev_lss rfl rfl) ?_
  refine WL_nil ?_
  refine thenE_n ?_
  refine W_cond rfl (fun hg9 => ?_) (fun hg9 => ?_)
  · have hp9 := of_decide_eq_true hg9
    refine W_skip ?_
    refine thenE_n ?_
    refine W_seq ?_
    refine W_block ?_
    refine W_seq ?_
    refine W_region ?_
    refine WL_q rfl (ev_move rfl) ?_
    refine WL_q rfl (ev_move rfl) ?_
    have hlt : i < xss.length := by omega
    have hx2 : i < (numss k xss).length := by omega
    have hsl := sumL_le (xss := xss) i
    have hsr := sumL_row hlt
    have hs9 := sumL_succ hlt
    have hrl : ((numss k xss)[i]).length = xss[i].length := by rw [numss_at hlt, nums_len]
    obtain ⟨a2, c2, hc2, hr2⟩ := hx.row (i := i) hx2
    refine WL_q rfl (ev_indexAddr Tryz.underlying22 sz24 rfl rfl (hx.isSome (by omega)) (by omega) (by omega)) ?_
    refine WL_q rfl (ev_load one24 rfl (hc2)) ?_
    refine WL_q rfl (ev_move rfl) ?_
    refine WL_m rfl (ev_call rfl (heldIntS_spec _ _ _ _ _ hr2 (numss_self hlt) (by omega) (by omega))) ?_
    rintro _ w17 ⟨rfl, hE17⟩
    have hz17 := hE17.size
    replace hE := hE.trans hE17
    replace hRL0 := hRL0.trans hE17
    replace hx := hx.ext hE17
    refine WL_q rfl (ev_assign rfl) ?_
    refine WL_nil ?_
    refine thenE_n ?_
    refine W_seq ?_
    refine W_region ?_
    refine WL_q rfl (ev_move rfl) ?_
    refine WL_q rfl (ev_lss rfl rfl) ?_
    refine WL_nil ?_
    refine thenE_n ?_
    refine W_cond rfl (fun hg19 => ?_) (fun hg19 => ?_)
    · have hp19 := of_decide_eq_true hg19
      refine W_seq ?_
      refine W_region ?_
      refine WL_q rfl (ev_assign rfl) ?_
      refine WL_nil ?_
      refine thenE_n ?_
      refine W_ret ?_
      refine blockE_r ?_
      refine thenE_r ?_
      refine thenE_r ?_
      refine blockE_r ?_
      refine thenE_r ?_
      refine ret1 rfl rfl ?_
      first | (exfalso; omega) | (exact ⟨vi (by rw [List.take_of_length_le (show xss.length ≤ i by omega)]), hE⟩)
    · have hp19 := of_decide_eq_false hg19
      refine W_skip ?_
      refine blockE_n ?_
      refine thenE_n ?_
      refine W_region ?_
      refine WL_q rfl (ev_move rfl) ?_
      refine WL_q rfl (ev_add rfl rfl (by omega)) ?_
      refine WL_q rfl (ev_assign rfl) ?_
      refine WL_nil ?_
      refine thenE_n ?_
      exact ⟨i + 1, (Subs.c rfl Subs.n), (Subs.c (lkI rfl (by omega)) (Subs.c (lkI rfl (by omega)) Subs.n)), ⟨hRL0, by omega⟩, by first | omega | (dsimp only; omega)⟩
  · have hp9 := of_decide_eq_false hg9
    refine W_exit ?_
    refine thenE_x ?_
    refine thenE_x ?_
    refine blockE_hit ?_
    refine thenE_n ?_
    refine W_seq ?_
    refine W_region ?_
    refine WL_q rfl (ev_move rfl) ?_
    refine WL_q rfl (ev_assign rfl) ?_
    refine WL_nil ?_
    refine thenE_n ?_
    refine W_ret ?_
    refine ret1 rfl rfl ?_
    first | (exfalso; omega) | (exact ⟨vi (by rw [List.take_of_length_le (show xss.length ≤ i by omega)]), hE⟩)

section
variable {l r : Nat} {w w' : World} {ps A L B : List Part} {q : Part} {i : Nat}
/-- One part is changed in place. -/
theorem Hold.setAt (h : Hold l r w ps) {j : Nat} (hj : j < ps.length) (k : Keep (fun k => k < w.heap.size ∧ ∀ b, ps[j].a = some b → k ≠ b) w w') (hq : q.R w') (ha : q.a = ps[j].a) : Hold l r w' (ps.set j q) := by
  have hpw := h.2.2
  have em : (ps.set j q).map Part.a = ps.map Part.a := by
    refine List.ext_getElem (by simp) fun m h1 h2 => ?_
    rw [List.getElem_map, List.getElem_map, List.getElem_set]
    split
    · rename_i e; subst e; exact ha
    · rfl
  have key : ∀ {qs : List Part}, (qs.Pairwise fun p q => ∀ b, p.a = some b → q.a ≠ some b) ↔ (qs.map Part.a).Pairwise fun x y => ∀ b, x = some b → y ≠ some b := by
    intro qs; rw [List.pairwise_map]
  refine ⟨Nat.le_trans h.1 k.size, fun p hp => ?_, key.2 (by rw [em]; exact key.1 hpw)⟩
  obtain ⟨m, hm, rfl⟩ := List.mem_iff_getElem.1 hp
  rw [List.length_set] at hm
  rw [List.getElem_set]
  split
  · rename_i e
    exact ⟨hq, fun b hb => (h.2.1 _ (List.getElem_mem hj)).2 b (by rw [← ha]; exact hb)⟩
  · rename_i e
    have h1 := h.2.1 _ (List.getElem_mem hm)
    refine ⟨ps[m].st h1.1 k fun b hb => ⟨by have := h1.2 b hb; have := h.1; omega, fun c hc e2 => ?_⟩, h1.2⟩
    subst e2
    have h2 := List.pairwise_iff_getElem.1 hpw
    rcases Nat.lt_or_gt_of_ne e with h3 | h3
    · exact h2 j m hj hm h3 _ hc hb
    · exact h2 m j hm hj h3 _ hb hc
theorem Hold.setIn (h : Hold l r w (A ++ (L ++ B))) (hi : i < L.length) (k : Keep (fun k => k < w.heap.size ∧ ∀ b, L[i].a = some b → k ≠ b) w w') (hq : q.R w') (ha : q.a = L[i].a) : Hold l r w' (A ++ (L.set i q ++ B)) := by
  have hj : A.length + i < (A ++ (L ++ B)).length := by simp; omega
  have e : (A ++ (L ++ B))[A.length + i] = L[i] := by
    rw [List.getElem_append_right (by omega)]
    simp only [Nat.add_sub_cancel_left]
    rw [List.getElem_append_left hi]
  have h2 := h.setAt hj (q := q) (by rw [e]; exact k) hq (by rw [e]; exact ha)
  rw [List.set_append_right _ _ (by omega), Nat.add_sub_cancel_left, List.set_append_left _ _ hi] at h2
  exact h2
theorem Hold.at (h : Hold l r w (A ++ (L ++ B))) (hi : i < L.length) : L[i].R w ∧ ∀ b, L[i].a = some b → l ≤ b ∧ b < r := h.2.1 _ (List.mem_append_right _ (List.mem_append_left _ (List.getElem_mem hi)))
theorem part_own {E sz n c : Nat} {a : Option Addr} {cs : List Value} (h : (pOwn E sz a n c cs).R w ∧ ∀ b, (pOwn E sz a n c cs).a = some b → l ≤ b ∧ b < r) : OwnH l r 0 0 w E sz a n c cs :=
  ⟨own_lift h.1 fun q hq => (h.2 _ (pOwn.b hq)).1, fun q hq => ⟨(h.2 _ (pOwn.b hq)).2, .inr (Nat.zero_le _)⟩⟩
end
section
variable {α β γ : Type} {f : α × β → γ} {vs : List α} {zs : List β} {i : Nat} {y : β}
theorem zm_at (hv : i < vs.length) (hz : i < zs.length) {h : i < ((vs.zip zs).map f).length} : ((vs.zip zs).map f)[i] = f (vs[i], zs[i]) := by simp
theorem zm_set (hv : i < vs.length) : (vs.zip (zs.set i y)).map f = ((vs.zip zs).map f).set i (f (vs[i], y)) := by
  apply List.ext_getElem (by simp)
  intro j h1 h2
  rw [List.getElem_set]
  by_cases e : i = j
  · subst e; simp
  · rw [if_neg e]; simp [List.getElem_set_ne e]
end
theorem V1_len {vs : List (Option Addr × Nat)} {xs ys : List (List Int)} (h : xs.map List.length = ys.map List.length) : V1 vs xs = V1 vs ys := by
  have e : ∀ zs : List (List Int), V1 vs zs = (vs.zip (zs.map List.length)).map fun p => Value.slice p.1.1 p.2 p.1.2 := by
    intro zs
    unfold V1
    rw [List.zip_map_right, List.map_map]
    rfl
  rw [e, e, h]

section
variable {l r : Nat} {w w' : World} {A B D : List Part} {vs : List (Option Addr × Nat)} {i : Nat}
theorem Hold.row {zs : List (List Int)} (h : Hold l r w (A ++ (rowsP vs zs ++ B))) (hv : i < vs.length) (hz : i < zs.length) : OwnH l r 0 0 w 3 1 vs[i].1 zs[i].length vs[i].2 (zs[i].map VI) := by
  have h1 := h.at (i := i) (by simp [rowsP]; omega)
  have e : (rowsP vs zs)[i]'(by simp [rowsP]; omega) = pIntO vs[i].1 vs[i].2 zs[i] := zm_at (f := fun p : (Option Addr × Nat) × List Int => pIntO p.1.1 p.1.2 p.2) hv hz
  rw [e] at h1
  exact part_own h1
theorem Hold.rowSet {zs : List (List Int)} (h : Hold l r w (A ++ (rowsP vs zs ++ B))) (hv : i < vs.length) (hz : i < zs.length) {ys : List Int} {lo : Nat} (hl : ys.length = zs[i].length) (k : Apd w w' vs[i].1) (o : Own lo w' 3 1 vs[i].1 zs[i].length vs[i].2 (ys.map VI)) : Hold l r w' (A ++ (rowsP vs (zs.set i ys) ++ B)) := by
  have e : (rowsP vs zs)[i]'(by simp [rowsP]; omega) = pIntO vs[i].1 vs[i].2 zs[i] := zm_at (f := fun p : (Option Addr × Nat) × List Int => pIntO p.1.1 p.1.2 p.2) hv hz
  have es : rowsP vs (zs.set i ys) = (rowsP vs zs).set i (pIntO vs[i].1 vs[i].2 ys) := zm_set (f := fun p : (Option Addr × Nat) × List Int => pIntO p.1.1 p.1.2 p.2) hv
  rw [es]
  refine h.setIn (by simp [rowsP]; omega) (k.mono fun x hx => ⟨hx.1, fun q hq => ?_⟩) ?_ (by rw [e]; rfl)
  · exact hx.2 q.block (by rw [e]; show (pIntO _ _ _).a = _; unfold pIntO; exact pOwn.b hq)
  · show Own 0 w' _ 1 _ ys.length _ _
    rw [hl]; exact o.mono (Nat.zero_le _)
theorem Hold.inb {zs : List Cl} (h : Hold l r w (A ++ (clsP pIntO vs zs ++ B))) (hv : i < vs.length) (hz : i < zs.length) : OwnH l r 0 0 w 3 1 vs[i].1 zs[i].2.1.length vs[i].2 (zs[i].2.1.map VI) := by
  have h1 := h.at (i := i) (by simp [clsP]; omega)
  have e : (clsP pIntO vs zs)[i]'(by simp [clsP]; omega) = pIntO vs[i].1 vs[i].2 zs[i].2.1 := zm_at (f := fun p : (Option Addr × Nat) × Cl => pIntO p.1.1 p.1.2 p.2.2.1) hv hz
  rw [e] at h1
  exact part_own h1
theorem Hold.inbSet {zs : List Cl} (h : Hold l r w (A ++ (clsP pIntO vs zs ++ B))) (hv : i < vs.length) (hz : i < zs.length) {y : Cl} {lo : Nat} (hl : y.2.1.length = zs[i].2.1.length) (k : Apd w w' vs[i].1) (o : Own lo w' 3 1 vs[i].1 zs[i].2.1.length vs[i].2 (y.2.1.map VI)) : Hold l r w' (A ++ (clsP pIntO vs (zs.set i y) ++ B)) := by
  have e : (clsP pIntO vs zs)[i]'(by simp [clsP]; omega) = pIntO vs[i].1 vs[i].2 zs[i].2.1 := zm_at (f := fun p : (Option Addr × Nat) × Cl => pIntO p.1.1 p.1.2 p.2.2.1) hv hz
  have es : clsP pIntO vs (zs.set i y) = (clsP pIntO vs zs).set i (pIntO vs[i].1 vs[i].2 y.2.1) := zm_set (f := fun p : (Option Addr × Nat) × Cl => pIntO p.1.1 p.1.2 p.2.2.1) hv
  rw [es]
  refine h.setIn (by simp [clsP]; omega) (k.mono fun x hx => ⟨hx.1, fun q hq => ?_⟩) ?_ (by rw [e]; rfl)
  · exact hx.2 q.block (by rw [e]; show (pIntO _ _ _).a = _; unfold pIntO; exact pOwn.b hq)
  · show Own 0 w' _ 1 _ y.2.1.length _ _
    rw [hl]; exact o.mono (Nat.zero_le _)
end
theorem v1_cell {vs : List (Option Addr × Nat)} {zs : List (List Int)} {rest : List Value} {i : Nat} (hv : i < vs.length) (hz : i < zs.length) : (V1 vs zs ++ rest)[i]? = some (.slice vs[i].1 zs[i].length vs[i].2) := by
  rw [List.getElem?_append_left (by simp; omega), List.getElem?_eq_getElem (by simp; omega)]
  simp [rowVal]
theorem own_blkG {lo sz : Nat} {w : World} {E : TypeId} {a : Option Addr} {n c : Nat} {cs : List Value} (h : Own lo w E sz a n c cs) (hn : 0 < n) : ∃ g rest, a = some ⟨g, 0, none⟩ ∧ lo ≤ g ∧ Blk w g E (cs ++ rest) ∧ n ≤ c ∧ c ≤ maxLen ∧ (cs ++ rest).length = c * sz ∧ cs.length = n * sz := by
  obtain ⟨hl, h⟩ := h
  rcases h with ⟨hv, h0⟩ | ⟨g, cap, cur, hv, hb, hg, h1, h2, h3, h4⟩
  · omega
  · cases hv
    have e : cs ++ cur.toList.drop (n * sz) = cur.toList := by rw [← h4]; exact List.take_append_drop _ _
    exact ⟨g, cur.toList.drop (n * sz), rfl, hb, by rw [e]; simpa [Blk] using hg, h1, h2, by rw [e]; simpa using h3, hl⟩
theorem own_of_blkG {lo sz : Nat} {w : World} {E : TypeId} {g n c : Nat} {cs rest : List Value} (hB : Blk w g E (cs ++ rest)) (h1 : lo ≤ g) (h2 : n ≤ c) (h3 : c ≤ maxLen) (h4 : (cs ++ rest).length = c * sz) (h5 : cs.length = n * sz) : Own lo w E sz (some ⟨g, 0, none⟩) n c cs :=
  ⟨h5, .inr ⟨g, c, (cs ++ rest).toArray, rfl, h1, hB, h2, h3, by rw [List.size_toArray]; exact h4, by rw [← h5]; exact List.take_left⟩⟩
theorem V3_cons (v : Option Addr × Nat) (z : Cl) (vs : List (Option Addr × Nat)) (zs : List Cl) : V3 (v :: vs) (z :: zs) = VI z.1 :: .slice v.1 z.2.1.length v.2 :: VI z.2.2 :: V3 vs zs := rfl
theorem V3_len : ∀ {vs : List (Option Addr × Nat)} {zs : List Cl}, vs.length = zs.length → (V3 vs zs).length = zs.length * 3
  | [], [], _ => rfl
  | v :: vs, z :: zs, h => by
    rw [V3_cons]
    have := V3_len (vs := vs) (zs := zs) (by simpa using h)
    simp only [List.length_cons] at *
    omega
theorem V3_set0 {x : Int} : ∀ {vs : List (Option Addr × Nat)} {zs : List Cl} {i : Nat} (_ : i < vs.length) (hz : i < zs.length), (V3 vs zs).set (i * 3) (VI x) = V3 vs (zs.set i (x, zs[i].2))
  | v :: vs, z :: zs, 0, _, _ => rfl
  | v :: vs, z :: zs, i + 1, hv, hz => by
    have := V3_set0 (x := x) (vs := vs) (zs := zs) (i := i) (by simpa using hv) (by simpa using hz)
    rw [V3_cons, List.set_cons_succ, V3_cons, show (i + 1) * 3 = i * 3 + 1 + 1 + 1 by omega, List.set_cons_succ, List.set_cons_succ, List.set_cons_succ, this]
    rfl
theorem V3_set2 {x : Int} : ∀ {vs : List (Option Addr × Nat)} {zs : List Cl} {i : Nat} (_ : i < vs.length) (hz : i < zs.length), (V3 vs zs).set (i * 3 + 2) (VI x) = V3 vs (zs.set i (zs[i].1, zs[i].2.1, x))
  | v :: vs, z :: zs, 0, _, _ => rfl
  | v :: vs, z :: zs, i + 1, hv, hz => by
    have := V3_set2 (x := x) (vs := vs) (zs := zs) (i := i) (by simpa using hv) (by simpa using hz)
    rw [V3_cons, show (i + 1) * 3 + 2 = (i * 3 + 2) + 1 + 1 + 1 by omega, List.set_cons_succ, List.set_cons_succ, List.set_cons_succ, this]
    rfl
theorem V3_get1 : ∀ {vs : List (Option Addr × Nat)} {zs : List Cl} {i : Nat} (hv : i < vs.length) (hz : i < zs.length), (V3 vs zs)[i * 3 + 1]? = some (.slice vs[i].1 zs[i].2.1.length vs[i].2)
  | v :: vs, z :: zs, 0, _, _ => rfl
  | v :: vs, z :: zs, i + 1, hv, hz => by
    have := V3_get1 (vs := vs) (zs := zs) (i := i) (by simpa using hv) (by simpa using hz)
    rw [V3_cons, show (i + 1) * 3 + 1 = (i * 3 + 1) + 1 + 1 + 1 by omega, List.getElem?_cons_succ, List.getElem?_cons_succ, List.getElem?_cons_succ, this]
    rfl
theorem V3_eq {vs : List (Option Addr × Nat)} {zs : List Cl} {i : Nat} {y : Cl} (_ : i < vs.length) (hz : i < zs.length) (h1 : y.1 = zs[i].1) (h2 : y.2.1.length = zs[i].2.1.length) (h3 : y.2.2 = zs[i].2.2) : V3 vs (zs.set i y) = V3 vs zs := by
  unfold V3
  congr 1
  rw [zm_set (by assumption)]
  refine List.ext_getElem (by simp) fun j k1 k2 => ?_
  rw [List.getElem_set]
  split
  · rename_i e; subst e; simp [clCells, h1, h2, h3]
  · rfl

set_option maxRecDepth 100000 in
theorem markIntSS_h {l r : Nat} (A B : List Part) (vs : List (Option Addr × Nat)) (a : Option Addr) (c : Nat) (xss : List (List Int)) (k : Int) (w : World) (hH : Hold l r w (A ++ (rowsP vs xss ++ B))) (hp : pOwn 24 1 a xss.length c (V1 vs xss) ∈ A) (hvl : vs.length = xss.length) (hk : 0 ≤ k ∧ k ≤ 562949953421312) (hs : sumL xss ≤ 1048576) (hn : xss.length ≤ 1048576) :
    Fn Tryz.prog 22 #[.slice a xss.length c, VI k] w (fun o9 w' => o9 = VI (k + (sumL xss : Int)) ∧ Hold l r w' (A ++ (rowsP vs (numss k xss) ++ B)) ∧ Rg l r 0 0 w w') := by
  have hnl := numss_len k xss
  refine Fn_of Tryz.func22 rfl rfl (by kernel_rfl) rfl ?_
  refine W_seq ?_
  refine W_region ?_
  refine WL_q rfl (ev_assign rfl) ?_
  refine WL_nil ?_
  refine thenE_n ?_
  refine W_seq ?_
  refine W_seq ?_
  refine W_region ?_
  refine WL_q rfl (ev_assign rfl) ?_
  refine WL_nil ?_
  refine thenE_n ?_
  refine W_block ?_
  refine W_loopC (G := Nat) [(0, _)] ((Subs.c rfl Subs.n)) (fun i => [(1, VI (k + (sumL (xss.take i) : Int))), (5, VI (i : Int))]) (fun i w' => Rg l r 0 0 w w' ∧ i ≤ xss.length ∧ Hold l r w' (A ++ (rowsP vs (mxl (numss k xss) xss i) ++ B))) (fun i => xss.length - i) 0 ((Subs.c (lkI rfl (by simp [sumL])) (Subs.c (lkI rfl (by omega)) Subs.n))) (⟨Rg.refl, ⟨by omega, hH⟩⟩) ?_
  rintro i wL0 ⟨hRL0, hi', hHi⟩
  have hzL0 := hRL0.size
  refine W_seq ?_
  refine W_seq ?_
  refine W_region ?_
  refine WL_q rfl (ev_move rfl) ?_
  refine WL_q rfl (ev_move rfl) ?_
  refine WL_q rfl (ev_len Tryz.underlying22 rfl) ?_
  refine WL_q rfl (ev_lss rfl rfl) ?_
  refine WL_nil ?_
  refine thenE_n ?_
  refine W_cond rfl (fun hg9 => ?_) (fun hg9 => ?_)
  · have hp9 := of_decide_eq_true hg9
    refine W_skip ?_
    refine thenE_n ?_
    refine W_seq ?_
    refine W_block ?_
    refine W_region ?_
    refine WL_q rfl (ev_move rfl) ?_
    refine WL_q rfl (ev_move rfl) ?_
    have hlt : i < xss.length := by omega
    have hml := mxl_len (i := i) hnl
    have hv : i < vs.length := by omega
    have hx : i < (mxl (numss k xss) xss i).length := by omega
    have hat := mxl_at (i := i) hnl hlt (h2 := hx)
    have hsl := sumL_le (xss := xss) i
    have hsr := sumL_row hlt
    have hs9 := sumL_succ hlt
    have hrl : ((mxl (numss k xss) xss i)[i]).length = xss[i].length := by rw [hat]
    have hOr := (hHi.row hv hx).1
    have hTr := (hHi.row hv hx).2
    rw [hrl] at hOr
    have hHd := part_own (hHi.2.1 _ (List.mem_append_left _ hp))
    obtain ⟨g, rest, rfl, hg1, hB, hg2, hg3, hg4, hg5⟩ := hHd.1.blk (by omega)
    refine WL_q rfl (ev_indexAddr Tryz.underlying22 sz24 rfl rfl rfl (by omega) (by omega)) ?_
    refine WL_q rfl (ev_load one24 rfl (hB.cellAt (v1_cell hv hlt) (by simp))) ?_
    refine WL_q rfl (ev_move rfl) ?_
    refine WL_m rfl (ev_call rfl (markIntS_own hOr (by omega) (by omega))) ?_
    rintro _ w17 ⟨rfl, hO17, hK17⟩
    have hz17 := hK17.size
    replace hRL0 := hRL0.app hK17 (fun q hq => .inl ⟨(hOr.block q hq).1, (hTr q hq).1, .inl (Nat.le_refl _)⟩)
    replace hOr := hO17
    have hH2 := hHi.rowSet (ys := nums (k + (sumL (xss.take i) : Int)) xss[i].length) hv hx (by rw [nums_len, hrl]) hK17 (by rw [hrl]; exact hO17)
    rw [← numss_at hlt (h2 := by omega), mxl_put hnl hlt] at hH2
    refine WL_q rfl (ev_assign rfl) ?_
    refine WL_nil ?_
    refine blockE_n ?_
    refine thenE_n ?_
    refine W_region ?_
    refine WL_q rfl (ev_move rfl) ?_
    refine WL_q rfl (ev_add rfl rfl (by omega)) ?_
    refine WL_q rfl (ev_assign rfl) ?_
    refine WL_nil ?_
    refine thenE_n ?_
    exact ⟨i + 1, (Subs.c rfl Subs.n), (Subs.c (lkI rfl (by omega)) (Subs.c (lkI rfl (by omega)) Subs.n)), ⟨hRL0, ⟨by omega, hH2⟩⟩, by first | omega | (dsimp only; omega)⟩
  · have hp9 := of_decide_eq_false hg9
    refine W_exit ?_
    refine thenE_x ?_
    refine thenE_x ?_
    refine blockE_hit ?_
    refine thenE_n ?_
    refine W_seq ?_
    refine W_region ?_
    refine WL_q rfl (ev_move rfl) ?_
    refine WL_q rfl (ev_assign rfl) ?_
    refine WL_nil ?_
    refine thenE_n ?_
    refine W_ret ?_
    refine ret1 rfl rfl ?_
    have hi9 : i = xss.length := by omega
    subst hi9; refine ⟨by rw [List.take_length], ?_, hRL0⟩; rw [mxl_all hnl] at hHi; exact hHi

end Go.Proofs.YtdpdjbfjjlpfgaaGreatDoor
