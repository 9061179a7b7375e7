/- Contracts of the laws' own functions on data: sizes, copies and comparisons of lists, lists of lists, clauses, machines and networks. -/
import Derived.Test.YtdpdjbfjjlpfgaaGreatDoorBasic
import Derived.Test.YtdpdjbfjjlpfgaaGreatDoorMore
namespace Go.Proofs.YtdpdjbfjjlpfgaaGreatDoor
open Go Go.RowKit

def totL {α : Type} (xss : List (List α)) : Nat := xss.length + (xss.map List.length).sum
def totC (cs : List Cl) : Nat := cs.length + (cs.map fun c => c.2.1.length).sum
theorem sum_take_succ {α : Type} (f : α → Nat) (xs : List α) {i : Nat} (h : i < xs.length) : ((xs.take (i + 1)).map f).sum = ((xs.take i).map f).sum + f xs[i] := by
  rw [List.take_succ_eq_append_getElem h]; simp only [List.map_append, List.sum_append, List.map_cons, List.map_nil, List.sum_cons, List.sum_nil, Nat.add_zero]
theorem sum_take_full {α : Type} (f : α → Nat) (xs : List α) {i : Nat} (h : xs.length ≤ i) : ((xs.take i).map f).sum = (xs.map f).sum := by rw [List.take_of_length_le h]
theorem le_sum_of_mem {α : Type} (f : α → Nat) {xs : List α} {x : α} (h : x ∈ xs) : f x ≤ (xs.map f).sum := by
  induction xs with
  | nil => simp at h
  | cons y r ih =>
    simp only [List.map_cons, List.sum_cons]
    rcases List.mem_cons.1 h with rfl | h
    · omega
    · have := ih h; omega
theorem totL_le {α : Type} {xss : List (List α)} {i : Nat} (h : i < xss.length) : xss[i].length ≤ totL xss := by
  have := le_sum_of_mem List.length (List.getElem_mem h); unfold totL; omega
theorem totC_le {cs : List Cl} {i : Nat} (h : i < cs.length) : cs[i].2.1.length ≤ totC cs := by
  have := le_sum_of_mem (fun c : Cl => c.2.1.length) (List.getElem_mem h); unfold totC; omega
theorem totL_len {α : Type} (xss : List (List α)) : xss.length ≤ totL xss := by unfold totL; omega
theorem totC_len (cs : List Cl) : cs.length ≤ totC cs := by unfold totC; omega

theorem list_eq_of {α : Type} {l m : List α} (hl : l.length = m.length) (h : ∀ i (h1 : i < l.length) (h2 : i < m.length), l[i] = m[i]) : l = m := List.ext_getElem hl h

set_option maxRecDepth 100000 in
theorem eqIntS_spec {lo hi lo2 hi2 : Nat} (a a2 : Option Addr) (c c2 : Nat) (xs ys : List Int) (w : World) (hx : Ints lo hi w a c xs) (hy : Ints lo2 hi2 w a2 c2 ys) (hn : xs.length ≤ 1048576) :
    Fn Tryz.prog 21 #[.slice a xs.length c, .slice a2 ys.length c2] w (fun v w' => v = VB (decide (xs = ys)) ∧ Ext w w') := by
  have hE := Ext.refl w
  refine Fn_of Tryz.func21 rfl rfl (by kernel_rfl) rfl ?_
  refine W_seq ?_
  refine W_region ?_
  refine WL_q rfl (ev_assign rfl) ?_
  refine WL_nil ?_
  refine thenE_n ?_
  refine W_seq ?_
  refine W_seq ?_
  refine W_region ?_
  refine WL_q rfl (ev_move rfl) ?_
  refine WL_q rfl (ev_len Tryz.underlying24 rfl) ?_
  refine WL_q rfl (ev_move rfl) ?_
  refine WL_q rfl (ev_len Tryz.underlying24 rfl) ?_
  refine WL_q rfl (ev_neq rfl rfl) ?_
  refine WL_nil ?_
  refine thenE_n ?_
  refine W_cond rfl (fun hg10 => ?_) (fun hg10 => ?_)
  · have hp10 := of_decide_eq_true hg10
    refine W_seq ?_
    refine W_region ?_
    refine WL_q rfl (ev_assign rfl) ?_
    refine WL_nil ?_
    refine thenE_n ?_
    refine W_ret ?_
    refine thenE_r ?_
    refine ret1 rfl rfl ?_
    exact ⟨vb (bf fun h => hp10 (by rw [h])), hE⟩
  · have hp10 := of_decide_eq_false hg10
    refine W_skip ?_
    refine thenE_n ?_
    refine W_seq ?_
    refine W_seq ?_
    refine W_region ?_
    refine WL_q rfl (ev_assign rfl) ?_
    refine WL_nil ?_
    refine thenE_n ?_
    refine W_block ?_
    refine W_loopC (G := Nat) [(0, _), (1, _)] ((Subs.c rfl (Subs.c rfl Subs.n))) (fun i => [(5, VI (i : Int))]) (fun i w' => Ext w w' ∧ i ≤ xs.length ∧ ∀ j (h1 : j < i) (h2 : j < xs.length) (h3 : j < ys.length), xs[j] = ys[j]) (fun i => xs.length - i) 0 ((Subs.c (lkI rfl (by omega)) Subs.n)) (⟨Ext.refl _, ⟨by omega, fun j h => by omega⟩⟩) ?_
    rintro i wL0 ⟨hRL0, hi, hJ⟩
    have hzL0 := hRL0.size
    replace hE := hE.trans hRL0
    replace hx := hx.ext hRL0
    replace hy := hy.ext hRL0
    refine W_seq ?_
    refine W_seq ?_
    refine W_region ?_
    refine WL_q rfl (ev_move rfl) ?_
    refine WL_q rfl (ev_move rfl) ?_
    refine WL_q rfl (ev_len Tryz.underlying24 rfl) ?_
    refine WL_q rfl (ev_lss rfl rfl) ?_
    refine WL_nil ?_
    refine thenE_n ?_
    refine W_cond rfl (fun hg14 => ?_) (fun hg14 => ?_)
    · have hp14 := of_decide_eq_true hg14
      refine W_skip ?_
      refine thenE_n ?_
      refine W_seq ?_
      refine W_block ?_
      refine W_seq ?_
      refine W_drawE [(0, true), (1, true), (2, true), (3, true), (4, true), (5, true), (6, true), (7, true), (8, true)] mixed (by kernel_rfl) rfl (by kernel_rfl) ?_
      intro wd6 hEd6 hzd6
      replace hE := hE.trans hEd6
      replace hRL0 := hRL0.trans hEd6
      replace hx := hx.ext hEd6
      replace hy := hy.ext hEd6
      have hDd6 := Ext.refl wd6
      refine PW_q rfl rfl (fun wq hq => ev_move rfl) ?_
      refine PW_q rfl rfl (fun wq hq => ev_move rfl) ?_
      refine PW_q rfl rfl (fun wq hq => ev_indexAddr Tryz.underlying24 sz3 rfl rfl (hx.isSome (by omega)) (by omega) (by omega)) ?_
      have hc20 := hx.cell (i := i) (by omega)
      refine PW_q rfl rfl (fun wq hq => ev_load one3 rfl (hq.cell (hc20))) ?_
      refine PW_q rfl rfl (fun wq hq => ev_move rfl) ?_
      refine PW_q rfl rfl (fun wq hq => ev_move rfl) ?_
      refine PW_q rfl rfl (fun wq hq => ev_indexAddr Tryz.underlying24 sz3 rfl rfl (hy.isSome (by omega)) (by omega) (by omega)) ?_
      have hc24 := hy.cell (i := i) (by omega)
      refine PW_q rfl rfl (fun wq hq => ev_load one3 rfl (hq.cell (hc24))) ?_
      refine PW_q rfl rfl (fun wq hq => ev_neq rfl rfl) ?_
      refine PW_nil ?_
      refine thenE_n ?_
      refine W_cond rfl (fun hg25 => ?_) (fun hg25 => ?_)
      · have hp25 := of_decide_eq_true hg25
        refine W_seq ?_
        refine W_region ?_
        refine WL_q rfl (ev_assign rfl) ?_
        refine WL_nil ?_
        refine thenE_n ?_
        refine W_ret ?_
        refine blockE_r ?_
        refine thenE_r ?_
        refine thenE_r ?_
        refine blockE_r ?_
        refine thenE_r ?_
        refine ret1 rfl rfl ?_
        exact ⟨vb (bf fun h => by subst h; exact hp25 rfl), hE⟩
      · have hp25 := of_decide_eq_false hg25
        refine W_skip ?_
        refine blockE_n ?_
        refine thenE_n ?_
        refine W_region ?_
        refine WL_q rfl (ev_move rfl) ?_
        refine WL_q rfl (ev_add rfl rfl (by omega)) ?_
        refine WL_q rfl (ev_assign rfl) ?_
        refine WL_nil ?_
        refine thenE_n ?_
        exact ⟨i + 1, (Subs.c rfl (Subs.c rfl Subs.n)), (Subs.c (lkI rfl (by omega)) Subs.n), ⟨hRL0, ⟨by omega, fun j h1 h2 h3 => by
    by_cases hj : j = i
    · subst hj; omega
    · exact hJ j (by omega) h2 h3⟩⟩, by first | omega | (dsimp only; omega)⟩
    · have hp14 := of_decide_eq_false hg14
      refine W_exit ?_
      refine thenE_x ?_
      refine thenE_x ?_
      refine blockE_hit ?_
      refine thenE_n ?_
      refine W_seq ?_
      refine W_region ?_
      refine WL_q rfl (ev_assign rfl) ?_
      refine WL_nil ?_
      refine thenE_n ?_
      refine W_ret ?_
      refine ret1 rfl rfl ?_
      exact ⟨vb (bt (list_eq_of (by omega) fun j h1 h2 => hJ j (by omega) h1 h2)), hE⟩

set_option maxRecDepth 100000 in
theorem eqClause_spec {lo hi lo2 hi2 : Nat} (a a2 : Option Addr) (c c2 : Nat) (x y : Cl) (w : World) (hx : Ints lo hi w a c x.2.1) (hy : Ints lo2 hi2 w a2 c2 y.2.1) (hn : x.2.1.length ≤ 1048576) :
    Fn Tryz.prog 41 #[.agg #[VI x.1, .slice a x.2.1.length c, VI x.2.2], .agg #[VI y.1, .slice a2 y.2.1.length c2, VI y.2.2]] w (fun v w' => v = VB (decide (x = y)) ∧ Ext w w') := by
  have hE := Ext.refl w
  refine Fn_of Tryz.func41 rfl rfl (by kernel_rfl) rfl ?_
  refine W_seq ?_
  refine W_region ?_
  refine WL_m rfl (ev_box rfl) ?_
  rintro _ w2 ⟨rfl, hN2⟩
  have hz2 := hN2.size
  replace hE := hE.trans hN2.ext
  replace hx := hx.ext hN2.ext
  replace hy := hy.ext hN2.ext
  have hB2 : Blk w2 _ _ [_, _, _] := hN2.blk
  refine WL_m rfl (ev_box rfl) ?_
  rintro _ w3 ⟨rfl, hN3⟩
  have hz3 := hN3.size
  replace hE := hE.trans hN3.ext
  replace hx := hx.ext hN3.ext
  replace hy := hy.ext hN3.ext
  replace hB2 := hB2.ext hN3.ext
  have hB3 : Blk w3 _ _ [_, _, _] := hN3.blk
  refine WL_q rfl (ev_assign rfl) ?_
  refine WL_nil ?_
  refine thenE_n ?_
  refine W_seq ?_
  refine W_seq ?_
  refine W_region ?_
  refine WL_q rfl (ev_fieldAddr fo40_0 rfl) ?_
  refine WL_q rfl (ev_load one3 rfl (hB2.cell rfl)) ?_
  refine WL_q rfl (ev_fieldAddr fo40_0 rfl) ?_
  refine WL_q rfl (ev_load one3 rfl (hB3.cell rfl)) ?_
  refine WL_q rfl (ev_neq rfl rfl) ?_
  refine WL_nil ?_
  refine thenE_n ?_
  refine W_cond rfl (fun hg9 => ?_) (fun hg9 => ?_)
  · have hp9 := of_decide_eq_true hg9
    refine W_seq ?_
    refine W_region ?_
    refine WL_q rfl (ev_assign rfl) ?_
    refine WL_nil ?_
    refine thenE_n ?_
    refine W_ret ?_
    refine thenE_r ?_
    refine ret1 rfl rfl ?_
    exact ⟨vb (bf fun h => hp9 (by rw [h])), hE⟩
  · have hp9 := of_decide_eq_false hg9
    refine W_skip ?_
    refine thenE_n ?_
    refine W_seq ?_
    refine W_seq ?_
    refine W_region ?_
    refine WL_q rfl (ev_fieldAddr fo40_1 rfl) ?_
    refine WL_q rfl (ev_load one24 rfl (hB2.cell rfl)) ?_
    refine WL_q rfl (ev_fieldAddr fo40_1 rfl) ?_
    refine WL_q rfl (ev_load one24 rfl (hB3.cell rfl)) ?_
    refine WL_m rfl (ev_call rfl (eqIntS_spec _ _ _ _ _ _ _ hx hy hn)) ?_
    rintro _ w14 ⟨rfl, hE14⟩
    have hz14 := hE14.size
    replace hE := hE.trans hE14
    replace hx := hx.ext hE14
    replace hy := hy.ext hE14
    replace hB2 := hB2.ext hE14
    replace hB3 := hB3.ext hE14
    refine WL_q rfl (ev_not rfl) ?_
    refine WL_nil ?_
    refine thenE_n ?_
    refine W_cond rfl (fun hg15 => ?_) (fun hg15 => ?_)
    · have hg14 := not_true hg15
      refine W_seq ?_
      refine W_region ?_
      refine WL_q rfl (ev_assign rfl) ?_
      refine WL_nil ?_
      refine thenE_n ?_
      refine W_ret ?_
      refine thenE_r ?_
      refine ret1 rfl rfl ?_
      exact ⟨vb (bf fun h => of_decide_eq_false hg14 (by rw [h])), hE⟩
    · have hg14 := not_false hg15
      refine W_skip ?_
      refine thenE_n ?_
      refine W_seq ?_
      refine W_seq ?_
      refine W_region ?_
      refine WL_q rfl (ev_fieldAddr fo40_2 rfl) ?_
      refine WL_q rfl (ev_load one3 rfl (hB2.cell rfl)) ?_
      refine WL_q rfl (ev_fieldAddr fo40_2 rfl) ?_
      refine WL_q rfl (ev_load one3 rfl (hB3.cell rfl)) ?_
      refine WL_q rfl (ev_neq rfl rfl) ?_
      refine WL_nil ?_
      refine thenE_n ?_
      refine W_cond rfl (fun hg20 => ?_) (fun hg20 => ?_)
      · have hp20 := of_decide_eq_true hg20
        refine W_seq ?_
        refine W_region ?_
        refine WL_q rfl (ev_assign rfl) ?_
        refine WL_nil ?_
        refine thenE_n ?_
        refine W_ret ?_
        refine thenE_r ?_
        refine ret1 rfl rfl ?_
        exact ⟨vb (bf fun h => hp20 (by rw [h])), hE⟩
      · have hp20 := of_decide_eq_false hg20
        refine W_skip ?_
        refine thenE_n ?_
        refine W_seq ?_
        refine W_region ?_
        refine WL_q rfl (ev_assign rfl) ?_
        refine WL_nil ?_
        refine thenE_n ?_
        refine W_ret ?_
        refine ret1 rfl rfl ?_
        exact ⟨vb (bt (Prod.ext (by omega) (Prod.ext (of_decide_eq_true hg14) (by omega)))), hE⟩

set_option maxRecDepth 100000 in
theorem eqIntSS_spec {lo hi lo2 hi2 : Nat} (a a2 : Option Addr) (c c2 : Nat) (xs ys : List (List Int)) (w : World) (hx : Intss lo hi w a c xs) (hy : Intss lo2 hi2 w a2 c2 ys) (hn : totL xs ≤ 1048576) :
    Fn Tryz.prog 19 #[.slice a xs.length c, .slice a2 ys.length c2] w (fun v w' => v = VB (decide (xs = ys)) ∧ Ext w w') := by
  have hnn := totL_len xs
  have hE := Ext.refl w
  refine Fn_of Tryz.func19 rfl rfl (by kernel_rfl) rfl ?_
  refine W_seq ?_
  refine W_region ?_
  refine WL_q rfl (ev_assign rfl) ?_
  refine WL_nil ?_
  refine thenE_n ?_
  refine W_seq ?_
  refine W_seq ?_
  refine W_region ?_
  refine WL_q rfl (ev_move rfl) ?_
  refine WL_q rfl (ev_len Tryz.underlying22 rfl) ?_
  refine WL_q rfl (ev_move rfl) ?_
  refine WL_q rfl (ev_len Tryz.underlying22 rfl) ?_
  refine WL_q rfl (ev_neq rfl rfl) ?_
  refine WL_nil ?_
  refine thenE_n ?_
  refine W_cond rfl (fun hg10 => ?_) (fun hg10 => ?_)
  · have hp10 := of_decide_eq_true hg10
    refine W_seq ?_
    refine W_region ?_
    refine WL_q rfl (ev_assign rfl) ?_
    refine WL_nil ?_
    refine thenE_n ?_
    refine W_ret ?_
    refine thenE_r ?_
    refine ret1 rfl rfl ?_
    exact ⟨vb (bf fun h => hp10 (by rw [h])), hE⟩
  · have hp10 := of_decide_eq_false hg10
    refine W_skip ?_
    refine thenE_n ?_
    refine W_seq ?_
    refine W_seq ?_
    refine W_region ?_
    refine WL_q rfl (ev_assign rfl) ?_
    refine WL_nil ?_
    refine thenE_n ?_
    refine W_block ?_
    refine W_loopC (G := Nat) [(0, _), (1, _)] ((Subs.c rfl (Subs.c rfl Subs.n))) (fun i => [(5, VI (i : Int))]) (fun i w' => Ext w w' ∧ i ≤ xs.length ∧ ∀ j (h1 : j < i) (h2 : j < xs.length) (h3 : j < ys.length), xs[j] = ys[j]) (fun i => xs.length - i) 0 ((Subs.c (lkI rfl (by omega)) Subs.n)) (⟨Ext.refl _, ⟨by omega, fun j h => by omega⟩⟩) ?_
    rintro i wL0 ⟨hRL0, hi, hJ⟩
    have hzL0 := hRL0.size
    replace hE := hE.trans hRL0
    replace hx := hx.ext hRL0
    replace hy := hy.ext hRL0
    refine W_seq ?_
    refine W_seq ?_
    refine W_region ?_
    refine WL_q rfl (ev_move rfl) ?_
    refine WL_q rfl (ev_move rfl) ?_
    refine WL_q rfl (ev_len Tryz.underlying22 rfl) ?_
    refine WL_q rfl (ev_lss rfl rfl) ?_
    refine WL_nil ?_
    refine thenE_n ?_
    refine W_cond rfl (fun hg14 => ?_) (fun hg14 => ?_)
    · have hp14 := of_decide_eq_true hg14
      refine W_skip ?_
      refine thenE_n ?_
      refine W_seq ?_
      refine W_block ?_
      refine W_seq ?_
      refine W_drawE [(0, true), (1, true), (2, true), (3, true), (4, true), (5, true), (6, true), (7, true), (8, false), (9, true)] mixed (by kernel_rfl) rfl (by kernel_rfl) ?_
      intro wd6 hEd6 hzd6
      replace hE := hE.trans hEd6
      replace hRL0 := hRL0.trans hEd6
      replace hx := hx.ext hEd6
      replace hy := hy.ext hEd6
      have hti := totL_le (show i < xs.length by omega)
      obtain ⟨a3, c3, hc3, hr3⟩ := hx.row (i := i) (by omega)
      obtain ⟨a4, c4, hc4, hr4⟩ := hy.row (i := i) (by omega)
      have hDd6 := Ext.refl wd6
      refine PW_q rfl rfl (fun wq hq => ev_move rfl) ?_
      refine PW_q rfl rfl (fun wq hq => ev_move rfl) ?_
      refine PW_q rfl rfl (fun wq hq => ev_indexAddr Tryz.underlying22 sz24 rfl rfl (hx.isSome (by omega)) (by omega) (by omega)) ?_
      refine PW_q rfl rfl (fun wq hq => ev_load one24 rfl (hq.cell (hc3))) ?_
      refine PW_q rfl rfl (fun wq hq => ev_move rfl) ?_
      refine PW_q rfl rfl (fun wq hq => ev_move rfl) ?_
      refine PW_q rfl rfl (fun wq hq => ev_indexAddr Tryz.underlying22 sz24 rfl rfl (hy.isSome (by omega)) (by omega) (by omega)) ?_
      refine PW_q rfl rfl (fun wq hq => ev_load one24 rfl (hq.cell (hc4))) ?_
      refine PW_m rfl rfl (ev_call rfl (eqIntS_spec _ _ _ _ _ _ _ hr3 hr4 (by omega))) ?_
      rintro _ w25 ⟨rfl, hE25⟩
      have hz25 := hE25.size
      replace hE := hE.trans hE25
      replace hRL0 := hRL0.trans hE25
      replace hDd6 := hDd6.trans hE25
      refine ⟨hDd6, ?_⟩
      refine PW_q rfl rfl (fun wq hq => ev_not rfl) ?_
      replace hx := hx.ext hDd6
      replace hy := hy.ext hDd6
      refine PW_nil ?_
      refine thenE_n ?_
      refine W_cond rfl (fun hg26 => ?_) (fun hg26 => ?_)
      · have hg25 := not_true hg26
        refine W_seq ?_
        refine W_region ?_
        refine WL_q rfl (ev_assign rfl) ?_
        refine WL_nil ?_
        refine thenE_n ?_
        refine W_ret ?_
        refine blockE_r ?_
        refine thenE_r ?_
        refine thenE_r ?_
        refine blockE_r ?_
        refine thenE_r ?_
        refine ret1 rfl rfl ?_
        exact ⟨vb (bf fun h => by subst h; simp at hg25), hE⟩
      · have hg25 := not_false hg26
        refine W_skip ?_
        refine blockE_n ?_
        refine thenE_n ?_
        refine W_region ?_
        refine WL_q rfl (ev_move rfl) ?_
        refine WL_q rfl (ev_add rfl rfl (by omega)) ?_
        refine WL_q rfl (ev_assign rfl) ?_
        refine WL_nil ?_
        refine thenE_n ?_
        exact ⟨i + 1, (Subs.c rfl (Subs.c rfl Subs.n)), (Subs.c (lkI rfl (by omega)) Subs.n), ⟨hRL0, ⟨by omega, fun j h1 h2 h3 => by
    by_cases hj : j = i
    · subst hj; exact of_decide_eq_true hg25
    · exact hJ j (by omega) h2 h3⟩⟩, by first | omega | (dsimp only; omega)⟩
    · have hp14 := of_decide_eq_false hg14
      refine W_exit ?_
      refine thenE_x ?_
      refine thenE_x ?_
      refine blockE_hit ?_
      refine thenE_n ?_
      refine W_seq ?_
      refine W_region ?_
      refine WL_q rfl (ev_assign rfl) ?_
      refine WL_nil ?_
      refine thenE_n ?_
      refine W_ret ?_
      refine ret1 rfl rfl ?_
      exact ⟨vb (bt (list_eq_of (by omega) fun j h1 h2 => hJ j (by omega) h1 h2)), hE⟩

set_option maxRecDepth 100000 in
theorem eqClauseS_spec {lo hi lo2 hi2 : Nat} (a a2 : Option Addr) (c c2 : Nat) (xs ys : List (Cl)) (w : World) (hx : Clauses lo hi w a c xs) (hy : Clauses lo2 hi2 w a2 c2 ys) (hn : totC xs ≤ 1048576) :
    Fn Tryz.prog 20 #[.slice a xs.length c, .slice a2 ys.length c2] w (fun v w' => v = VB (decide (xs = ys)) ∧ Ext w w') := by
  have hnn := totC_len xs
  have hE := Ext.refl w
  refine Fn_of Tryz.func20 rfl rfl (by kernel_rfl) rfl ?_
  refine W_seq ?_
  refine W_region ?_
  refine WL_q rfl (ev_assign rfl) ?_
  refine WL_nil ?_
  refine thenE_n ?_
  refine W_seq ?_
  refine W_seq ?_
  refine W_region ?_
  refine WL_q rfl (ev_move rfl) ?_
  refine WL_q rfl (ev_len Tryz.underlying23 rfl) ?_
  refine WL_q rfl (ev_move rfl) ?_
  refine WL_q rfl (ev_len Tryz.underlying23 rfl) ?_
  refine WL_q rfl (ev_neq rfl rfl) ?_
  refine WL_nil ?_
  refine thenE_n ?_
  refine W_cond rfl (fun hg10 => ?_) (fun hg10 => ?_)
  · have hp10 := of_decide_eq_true hg10
    refine W_seq ?_
    refine W_region ?_
    refine WL_q rfl (ev_assign rfl) ?_
    refine WL_nil ?_
    refine thenE_n ?_
    refine W_ret ?_
    refine thenE_r ?_
    refine ret1 rfl rfl ?_
    exact ⟨vb (bf fun h => hp10 (by rw [h])), hE⟩
  · have hp10 := of_decide_eq_false hg10
    refine W_skip ?_
    refine thenE_n ?_
    refine W_seq ?_
    refine W_seq ?_
    refine W_region ?_
    refine WL_q rfl (ev_assign rfl) ?_
    refine WL_nil ?_
    refine thenE_n ?_
    refine W_block ?_
    refine W_loopC (G := Nat) [(0, _), (1, _)] ((Subs.c rfl (Subs.c rfl Subs.n))) (fun i => [(5, VI (i : Int))]) (fun i w' => Ext w w' ∧ i ≤ xs.length ∧ ∀ j (h1 : j < i) (h2 : j < xs.length) (h3 : j < ys.length), xs[j] = ys[j]) (fun i => xs.length - i) 0 ((Subs.c (lkI rfl (by omega)) Subs.n)) (⟨Ext.refl _, ⟨by omega, fun j h => by omega⟩⟩) ?_
    rintro i wL0 ⟨hRL0, hi, hJ⟩
    have hzL0 := hRL0.size
    replace hE := hE.trans hRL0
    replace hx := hx.ext hRL0
    replace hy := hy.ext hRL0
    refine W_seq ?_
    refine W_seq ?_
    refine W_region ?_
    refine WL_q rfl (ev_move rfl) ?_
    refine WL_q rfl (ev_move rfl) ?_
    refine WL_q rfl (ev_len Tryz.underlying23 rfl) ?_
    refine WL_q rfl (ev_lss rfl rfl) ?_
    refine WL_nil ?_
    refine thenE_n ?_
    refine W_cond rfl (fun hg14 => ?_) (fun hg14 => ?_)
    · have hp14 := of_decide_eq_true hg14
      refine W_skip ?_
      refine thenE_n ?_
      refine W_seq ?_
      refine W_block ?_
      refine W_seq ?_
      refine W_drawE [(0, true), (1, true), (2, true), (3, true), (4, true), (5, true), (6, true), (7, true), (8, false), (9, true)] mixed (by kernel_rfl) rfl (by kernel_rfl) ?_
      intro wd6 hEd6 hzd6
      replace hE := hE.trans hEd6
      replace hRL0 := hRL0.trans hEd6
      replace hx := hx.ext hEd6
      replace hy := hy.ext hEd6
      have hti := totC_le (show i < xs.length by omega)
      obtain ⟨a3, c3, hc3, hr3⟩ := hx.cl (i := i) (by omega)
      obtain ⟨a4, c4, hc4, hr4⟩ := hy.cl (i := i) (by omega)
      have hDd6 := Ext.refl wd6
      refine PW_q rfl rfl (fun wq hq => ev_move rfl) ?_
      refine PW_q rfl rfl (fun wq hq => ev_move rfl) ?_
      refine PW_q rfl rfl (fun wq hq => ev_indexAddr Tryz.underlying23 sz40 rfl rfl (hx.isSome (by omega)) (by omega) (by omega)) ?_
      refine PW_q rfl rfl (fun wq hq => ev_loads st40 sz40 rfl (hq.cells (hc3)) rfl) ?_
      refine PW_q rfl rfl (fun wq hq => ev_move rfl) ?_
      refine PW_q rfl rfl (fun wq hq => ev_move rfl) ?_
      refine PW_q rfl rfl (fun wq hq => ev_indexAddr Tryz.underlying23 sz40 rfl rfl (hy.isSome (by omega)) (by omega) (by omega)) ?_
      refine PW_q rfl rfl (fun wq hq => ev_loads st40 sz40 rfl (hq.cells (hc4)) rfl) ?_
      refine PW_m rfl rfl (ev_call rfl (eqClause_spec _ _ _ _ xs[i] ys[i] _ hr3 hr4 (by omega))) ?_
      rintro _ w25 ⟨rfl, hE25⟩
      have hz25 := hE25.size
      replace hE := hE.trans hE25
      replace hRL0 := hRL0.trans hE25
      replace hDd6 := hDd6.trans hE25
      refine ⟨hDd6, ?_⟩
      refine PW_q rfl rfl (fun wq hq => ev_not rfl) ?_
      replace hx := hx.ext hDd6
      replace hy := hy.ext hDd6
      refine PW_nil ?_
      refine thenE_n ?_
      refine W_cond rfl (fun hg26 => ?_) (fun hg26 => ?_)
      · have hg25 := not_true hg26
        refine W_seq ?_
        refine W_region ?_
        refine WL_q rfl (ev_assign rfl) ?_
        refine WL_nil ?_
        refine thenE_n ?_
        refine W_ret ?_
        refine blockE_r ?_
        refine thenE_r ?_
        refine thenE_r ?_
        refine blockE_r ?_
        refine thenE_r ?_
        refine ret1 rfl rfl ?_
        exact ⟨vb (bf fun h => by subst h; simp at hg25), hE⟩
      · have hg25 := not_false hg26
        refine W_skip ?_
        refine blockE_n ?_
        refine thenE_n ?_
        refine W_region ?_
        refine WL_q rfl (ev_move rfl) ?_
        refine WL_q rfl (ev_add rfl rfl (by omega)) ?_
        refine WL_q rfl (ev_assign rfl) ?_
        refine WL_nil ?_
        refine thenE_n ?_
        exact ⟨i + 1, (Subs.c rfl (Subs.c rfl Subs.n)), (Subs.c (lkI rfl (by omega)) Subs.n), ⟨hRL0, ⟨by omega, fun j h1 h2 h3 => by
    by_cases hj : j = i
    · subst hj; exact of_decide_eq_true hg25
    · exact hJ j (by omega) h2 h3⟩⟩, by first | omega | (dsimp only; omega)⟩
    · have hp14 := of_decide_eq_false hg14
      refine W_exit ?_
      refine thenE_x ?_
      refine thenE_x ?_
      refine blockE_hit ?_
      refine thenE_n ?_
      refine W_seq ?_
      refine W_region ?_
      refine WL_q rfl (ev_assign rfl) ?_
      refine WL_nil ?_
      refine thenE_n ?_
      refine W_ret ?_
      refine ret1 rfl rfl ?_
      exact ⟨vb (bt (list_eq_of (by omega) fun j h1 h2 => hJ j (by omega) h1 h2)), hE⟩

/-! Machines and networks, as plain data and as values. -/
structure Mach where
  deg : Int
  states : Int
  msgs : Int
  start : List (List Int)
  send : List (List Int)
  clauses : List Cl
  output : List Int
structure Net where
  ends : List (List (Int × Int))
  ids : List Int
  inputs : List Int
/-- Where a machine's four slices lie. -/
structure MA where
  a1 : Option Addr
  c1 : Nat
  a2 : Option Addr
  c2 : Nat
  a3 : Option Addr
  c3 : Nat
  a4 : Option Addr
  c4 : Nat
structure NA where
  a1 : Option Addr
  c1 : Nat
  a2 : Option Addr
  c2 : Nat
  a3 : Option Addr
  c3 : Nat
def machV (h : MA) (m : Mach) : Value := .agg #[VI m.deg, VI m.states, VI m.msgs, .slice h.a1 m.start.length h.c1, .slice h.a2 m.send.length h.c2, .slice h.a3 m.clauses.length h.c3, .slice h.a4 m.output.length h.c4]
def netV (h : NA) (n : Net) : Value := .agg #[.slice h.a1 n.ends.length h.c1, .slice h.a2 n.ids.length h.c2, .slice h.a3 n.inputs.length h.c3]
structure IsMach (lo hi : Nat) (w : World) (h : MA) (m : Mach) : Prop where
  start : Intss lo hi w h.a1 h.c1 m.start
  send : Intss lo hi w h.a2 h.c2 m.send
  clauses : Clauses lo hi w h.a3 h.c3 m.clauses
  output : Ints lo hi w h.a4 h.c4 m.output
structure IsNet (lo hi : Nat) (w : World) (h : NA) (n : Net) : Prop where
  ends : Pairss lo hi w h.a1 h.c1 n.ends
  ids : Ints lo hi w h.a2 h.c2 n.ids
  inputs : Ints lo hi w h.a3 h.c3 n.inputs
/-- A fresh machine: its parts lie one behind the other. -/
def FMach (lo hi : Nat) (w : World) (h : MA) (m : Mach) : Prop := ∃ p q r, lo ≤ p ∧ p ≤ q ∧ q ≤ r ∧ r ≤ hi ∧ FIntss lo p w h.a1 h.c1 m.start ∧ FIntss p q w h.a2 h.c2 m.send ∧ FClauses q r w h.a3 h.c3 m.clauses ∧ FInts r hi w h.a4 h.c4 m.output
def FNet (lo hi : Nat) (w : World) (h : NA) (n : Net) : Prop := ∃ p q, lo ≤ p ∧ p ≤ q ∧ q ≤ hi ∧ FPairss lo p w h.a1 h.c1 n.ends ∧ FInts p q w h.a2 h.c2 n.ids ∧ FInts q hi w h.a3 h.c3 n.inputs
section
variable {lo hi : Nat} {w w' : World} {h : MA} {m : Mach}
theorem IsMach.ext (x : IsMach lo hi w h m) (k : Ext w w') : IsMach lo hi w' h m := ⟨x.start.ext k, x.send.ext k, x.clauses.ext k, x.output.ext k⟩
theorem IsMach.sto {b : Nat} {T : TypeId} {ds : List Value} (x : IsMach lo hi w h m) (k : Sto w w' b T ds) (hb : b < lo ∨ hi ≤ b) : IsMach lo hi w' h m := ⟨x.start.sto k hb, x.send.sto k hb, x.clauses.sto k hb, x.output.sto k hb⟩
theorem IsMach.kx {b : Nat} (x : IsMach lo hi w h m) (k : KX b w w') (hb : b < lo ∨ hi ≤ b) : IsMach lo hi w' h m := ⟨x.start.kx k hb, x.send.kx k hb, x.clauses.kx k hb, x.output.kx k hb⟩
theorem IsMach.app {a' : Option Addr} {lo' sz' n' c' : Nat} {E : TypeId} {ds : List Value} (x : IsMach lo hi w h m) (k : Apd w w' a') (o : Own lo' w E sz' a' n' c' ds) (hb : hi ≤ lo') : IsMach lo hi w' h m := ⟨x.start.app k o hb, x.send.app k o hb, x.clauses.app k o hb, x.output.app k o hb⟩
theorem FMach.is (x : FMach lo hi w h m) : IsMach lo hi w h m := by
  obtain ⟨p, q, r, h1, h2, h3, h4, x1, x2, x3, x4⟩ := x
  exact ⟨(FIntss.is x1).mono (by omega) (by omega), (FIntss.is x2).mono (by omega) (by omega), (FClauses.is x3).mono (by omega) (by omega), x4.is.mono (by omega) (by omega)⟩
theorem FMach.ext (x : FMach lo hi w h m) (k : Ext w w') : FMach lo hi w' h m := by
  obtain ⟨p, q, r, h1, h2, h3, h4, x1, x2, x3, x4⟩ := x
  exact ⟨p, q, r, h1, h2, h3, h4, x1.ext k, x2.ext k, x3.ext k, x4.ext k⟩
theorem FMach.sto {b : Nat} {T : TypeId} {ds : List Value} (x : FMach lo hi w h m) (k : Sto w w' b T ds) (hb : b < lo ∨ hi ≤ b) : FMach lo hi w' h m := by
  obtain ⟨p, q, r, h1, h2, h3, h4, x1, x2, x3, x4⟩ := x
  exact ⟨p, q, r, h1, h2, h3, h4, x1.sto k (by omega), x2.sto k (by omega), x3.sto k (by omega), x4.sto k (by omega)⟩
end
section
variable {lo hi : Nat} {w w' : World} {h : NA} {m : Net}
theorem IsNet.ext (x : IsNet lo hi w h m) (k : Ext w w') : IsNet lo hi w' h m := ⟨x.ends.ext k, x.ids.ext k, x.inputs.ext k⟩
theorem IsNet.sto {b : Nat} {T : TypeId} {ds : List Value} (x : IsNet lo hi w h m) (k : Sto w w' b T ds) (hb : b < lo ∨ hi ≤ b) : IsNet lo hi w' h m := ⟨x.ends.sto k hb, x.ids.sto k hb, x.inputs.sto k hb⟩
theorem IsNet.kx {b : Nat} (x : IsNet lo hi w h m) (k : KX b w w') (hb : b < lo ∨ hi ≤ b) : IsNet lo hi w' h m := ⟨x.ends.kx k hb, x.ids.kx k hb, x.inputs.kx k hb⟩
theorem IsNet.app {a' : Option Addr} {lo' sz' n' c' : Nat} {E : TypeId} {ds : List Value} (x : IsNet lo hi w h m) (k : Apd w w' a') (o : Own lo' w E sz' a' n' c' ds) (hb : hi ≤ lo') : IsNet lo hi w' h m := ⟨x.ends.app k o hb, x.ids.app k o hb, x.inputs.app k o hb⟩
theorem FNet.is (x : FNet lo hi w h m) : IsNet lo hi w h m := by
  obtain ⟨p, q, h1, h2, h3, x1, x2, x3⟩ := x
  exact ⟨(FPairss.is x1).mono (by omega) (by omega), x2.is.mono (by omega) (by omega), x3.is.mono (by omega) (by omega)⟩
theorem FNet.ext (x : FNet lo hi w h m) (k : Ext w w') : FNet lo hi w' h m := by
  obtain ⟨p, q, h1, h2, h3, x1, x2, x3⟩ := x
  exact ⟨p, q, h1, h2, h3, x1.ext k, x2.ext k, x3.ext k⟩
theorem FNet.sto {b : Nat} {T : TypeId} {ds : List Value} (x : FNet lo hi w h m) (k : Sto w w' b T ds) (hb : b < lo ∨ hi ≤ b) : FNet lo hi w' h m := by
  obtain ⟨p, q, h1, h2, h3, x1, x2, x3⟩ := x
  exact ⟨p, q, h1, h2, h3, x1.sto k (by omega), x2.sto k (by omega), x3.sto k (by omega)⟩
end
theorem IsNet.lo {b : Nat} {l r : Nat} {w w' : World} {h : NA} {m : Net} (x : IsNet l r w h m) (k : Lo b w w') (hb : r ≤ b) : IsNet l r w' h m := ⟨x.ends.lo k hb, x.ids.lo k hb, x.inputs.lo k hb⟩
theorem IsNet.rg {lo hi p q l r : Nat} {w w' : World} {h : NA} {m : Net} (x : IsNet l r w h m) (k : Rg lo hi p q w w') (hb : (r ≤ lo ∨ hi ≤ l ∨ (p ≤ l ∧ r ≤ q)) ∧ r ≤ w.heap.size) : IsNet l r w' h m := ⟨x.ends.rg k hb, x.ids.rg k hb, x.inputs.rg k hb⟩
theorem IsMach.rg {lo hi p q l r : Nat} {w w' : World} {h : MA} {m : Mach} (x : IsMach l r w h m) (k : Rg lo hi p q w w') (hb : (r ≤ lo ∨ hi ≤ l ∨ (p ≤ l ∧ r ≤ q)) ∧ r ≤ w.heap.size) : IsMach l r w' h m := ⟨x.start.rg k hb, x.send.rg k hb, x.clauses.rg k hb, x.output.rg k hb⟩
theorem FNet.rg {lo hi p' q' l r : Nat} {w w' : World} {h : NA} {m : Net} (x : FNet l r w h m) (k : Rg lo hi p' q' w w') (hb : (r ≤ lo ∨ hi ≤ l ∨ (p' ≤ l ∧ r ≤ q')) ∧ r ≤ w.heap.size) : FNet l r w' h m := by
  obtain ⟨p, q, h1, h2, h3, x1, x2, x3⟩ := x
  exact ⟨p, q, h1, h2, h3, x1.rg k (by omega), x2.rg k (by omega), x3.rg k (by omega)⟩
theorem FMach.rg {lo hi p' q' l r : Nat} {w w' : World} {h : MA} {m : Mach} (x : FMach l r w h m) (k : Rg lo hi p' q' w w') (hb : (r ≤ lo ∨ hi ≤ l ∨ (p' ≤ l ∧ r ≤ q')) ∧ r ≤ w.heap.size) : FMach l r w' h m := by
  obtain ⟨p, q, s, h1, h2, h3, h4, x1, x2, x3, x4⟩ := x
  exact ⟨p, q, s, h1, h2, h3, h4, x1.rg k (by omega), x2.rg k (by omega), x3.rg k (by omega), x4.rg k (by omega)⟩
theorem IsMach.lo {b : Nat} {l r : Nat} {w w' : World} {h : MA} {m : Mach} (x : IsMach l r w h m) (k : Lo b w w') (hb : r ≤ b) : IsMach l r w' h m := ⟨x.start.lo k hb, x.send.lo k hb, x.clauses.lo k hb, x.output.lo k hb⟩
theorem FNet.lo {b : Nat} {l r : Nat} {w w' : World} {h : NA} {m : Net} (x : FNet l r w h m) (k : Lo b w w') (hb : r ≤ b) : FNet l r w' h m := by
  obtain ⟨p, q, h1, h2, h3, x1, x2, x3⟩ := x
  exact ⟨p, q, h1, h2, h3, x1.lo k (by omega), x2.lo k (by omega), x3.lo k (by omega)⟩
theorem FMach.lo {b : Nat} {l r : Nat} {w w' : World} {h : MA} {m : Mach} (x : FMach l r w h m) (k : Lo b w w') (hb : r ≤ b) : FMach l r w' h m := by
  obtain ⟨p, q, s, h1, h2, h3, h4, x1, x2, x3, x4⟩ := x
  exact ⟨p, q, s, h1, h2, h3, h4, x1.lo k (by omega), x2.lo k (by omega), x3.lo k (by omega), x4.lo k (by omega)⟩
def totM (m : Mach) : Nat := totL m.start + totL m.send + totC m.clauses + m.output.length
def totN (n : Net) : Nat := totL n.ends + n.ids.length + n.inputs.length
/-- No slice of it is longer than an int can say. -/
structure SmM (m : Mach) : Prop where
  start : (m.start.length : Int) ≤ 9223372036854775807
  starts : ∀ x ∈ m.start, (x.length : Int) ≤ 9223372036854775807
  send : (m.send.length : Int) ≤ 9223372036854775807
  sends : ∀ x ∈ m.send, (x.length : Int) ≤ 9223372036854775807
  clauses : (m.clauses.length : Int) ≤ 9223372036854775807
  clausess : ∀ x ∈ m.clauses, (x.2.1.length : Int) ≤ 9223372036854775807
  output : (m.output.length : Int) ≤ 9223372036854775807
structure SmN (n : Net) : Prop where
  ends : (n.ends.length : Int) ≤ 9223372036854775807
  endss : ∀ x ∈ n.ends, (x.length : Int) ≤ 9223372036854775807
  ids : (n.ids.length : Int) ≤ 9223372036854775807
  inputs : (n.inputs.length : Int) ≤ 9223372036854775807

end Go.Proofs.YtdpdjbfjjlpfgaaGreatDoor
