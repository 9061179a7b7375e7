/- Contracts of the functions on value programs: sizes, copies, comparisons, validity. -/
import Derived.Test.YtjnkkadbfigmpaaBasic
namespace Go.Proofs.Ytjnkkadbfigmpaa
open Go Go.RowKit

theorem sz_le {n : Nat} {l : Int} (h : ¬ (if l - n < 0 then -1 else l - n) < 0) : (n : Int) ≤ l := by
  by_cases hc : l - n < 0
  · rw [if_pos hc] at h; omega
  · omega

set_option maxRecDepth 100000 in
theorem szValueOpS_spec (a : Option Addr) (n c : Nat) (left : Int) (w : World) (hl : 0 ≤ left ∧ left ≤ 1048576) (hn : (n : Int) ≤ 9223372036854775807) :
    Fn Try.prog 38 #[.slice a n c, VI left] w (fun v w' => v = VI (if left - n < 0 then -1 else left - n) ∧ w = w') := by
  refine Fn_of Try.func38 rfl rfl (by kernel_rfl) rfl ?_
  refine W_seq ?_
  refine W_region ?_
  refine WL_q rfl (ev_assign rfl) ?_
  refine WL_nil ?_
  refine thenE_n ?_
  refine W_seq ?_
  refine W_region ?_
  refine WL_q rfl (ev_move rfl) ?_
  refine WL_q rfl (ev_move rfl) ?_
  refine WL_q rfl (ev_len Try.underlying57 rfl) ?_
  refine WL_q rfl (ev_sub rfl rfl (by omega)) ?_
  refine WL_q rfl (ev_assign rfl) ?_
  refine WL_nil ?_
  refine thenE_n ?_
  refine W_seq ?_
  refine W_seq ?_
  refine W_region ?_
  refine WL_q rfl (ev_move rfl) ?_
  refine WL_q rfl (ev_lss rfl rfl) ?_
  refine WL_nil ?_
  refine thenE_n ?_
  refine W_cond rfl (fun hg10 => ?_) (fun hg10 => ?_)
  · have hp10 := of_decide_eq_true hg10
    refine W_seq ?_
    refine W_region ?_
    refine WL_q rfl (ev_assign rfl) ?_
    refine WL_nil ?_
    refine thenE_n ?_
    refine W_ret ?_
    refine thenE_r ?_
    refine ret1 rfl rfl ?_
    exact ⟨by rw [if_pos (by omega)], rfl⟩
  · have hp10 := of_decide_eq_false hg10
    refine W_skip ?_
    refine thenE_n ?_
    refine W_seq ?_
    refine W_region ?_
    refine WL_q rfl (ev_move rfl) ?_
    refine WL_q rfl (ev_assign rfl) ?_
    refine WL_nil ?_
    refine thenE_n ?_
    refine W_ret ?_
    refine ret1 rfl rfl ?_
    exact ⟨by rw [if_neg (by omega)], rfl⟩

set_option maxRecDepth 100000 in
theorem toValueOp_spec (k x : Int) (w : World) :
    Fn Try.prog 75 #[.agg #[VI k, VI x]] w (fun v w' => v = .agg #[VI k, VI x] ∧ Ext w w') := by
  have hE := Ext.refl w
  refine Fn_of Try.func75 rfl rfl (by kernel_rfl) rfl ?_
  refine W_seq ?_
  refine W_region ?_
  refine WL_m rfl (ev_box rfl) ?_
  rintro _ w1 ⟨rfl, hN1⟩
  have hz1 := hN1.size
  replace hE := hE.trans hN1.ext
  have hB1 : Blk w1 _ _ [_, _] := hN1.blk
  refine WL_m rfl (ev_alloc zr92) ?_
  rintro _ w2 ⟨rfl, hN2⟩
  have hz2 := hN2.size
  replace hE := hE.trans hN2.ext
  replace hB1 := hB1.ext hN2.ext
  have hB2 : Blk w2 _ _ [_, _] := hN2.blk
  refine WL_nil ?_
  refine thenE_n ?_
  refine W_seq ?_
  refine W_region ?_
  refine WL_m rfl (ev_alloc zr92) ?_
  rintro _ w3 ⟨rfl, hN3⟩
  have hz3 := hN3.size
  replace hE := hE.trans hN3.ext
  replace hB1 := hB1.ext hN3.ext
  replace hB2 := hB2.ext hN3.ext
  have hB3 : Blk w3 _ _ [_, _] := hN3.blk
  refine WL_nil ?_
  refine thenE_n ?_
  refine W_seq ?_
  refine W_region ?_
  refine WL_q rfl (ev_fieldAddr fo94_0 rfl) ?_
  refine WL_q rfl (ev_load one3 rfl (hB1.cell rfl)) ?_
  refine WL_q rfl (ev_fieldAddr fo92_0 rfl) ?_
  refine WL_s (ev_store sz3 rfl rfl rfl hB3 (by simp)) ?_
  rintro _ w2_3 hS2_3
  have hz2_3 := hS2_3.size
  replace hE := hE.sto hS2_3 (by omega)
  replace hB1 := hB1.sto hS2_3 (by omega)
  replace hB2 := hB2.sto hS2_3 (by omega)
  replace hB3 : Blk w2_3 _ _ [_, _] := hS2_3.blk
  refine WL_nil ?_
  refine thenE_n ?_
  refine W_seq ?_
  refine W_region ?_
  refine WL_q rfl (ev_fieldAddr fo94_1 rfl) ?_
  refine WL_q rfl (ev_load one3 rfl (hB1.cell rfl)) ?_
  refine WL_q rfl (ev_fieldAddr fo92_1 rfl) ?_
  refine WL_s (ev_store sz3 rfl rfl rfl hB3 (by simp)) ?_
  rintro _ w3_3 hS3_3
  have hz3_3 := hS3_3.size
  replace hE := hE.sto hS3_3 (by omega)
  replace hB1 := hB1.sto hS3_3 (by omega)
  replace hB2 := hB2.sto hS3_3 (by omega)
  replace hB3 : Blk w3_3 _ _ [_, _] := hS3_3.blk
  refine WL_nil ?_
  refine thenE_n ?_
  refine W_seq ?_
  refine W_region ?_
  refine WL_q rfl (ev_loads st92 sz92 rfl (cellsB hB3) rfl) ?_
  refine WL_s (ev_stores sz92 rfl rfl rfl (by simp [Value.oneCell']) hB2 (by simp)) ?_
  rintro _ w4_1 hS4_1
  have hz4_1 := hS4_1.size
  replace hE := hE.sto hS4_1 (by omega)
  replace hB1 := hB1.sto hS4_1 (by omega)
  replace hB3 := hB3.sto hS4_1 (by omega)
  replace hB2 : Blk w4_1 _ _ [_, _] := hS4_1.blk
  refine WL_nil ?_
  refine thenE_n ?_
  refine W_ret ?_
  refine retc rfl rfl st92 sz92 (cellsB hB2) rfl ?_
  exact ⟨rfl, hE⟩

set_option maxRecDepth 100000 in
theorem eqValueOp_spec (k x k2 x2 : Int) (w : World) :
    Fn Try.prog 81 #[.agg #[VI k, VI x], .agg #[VI k2, VI x2]] w (fun v w' => v = VB (decide ((k, x) = (k2, x2))) ∧ Ext w w') := by
  have hE := Ext.refl w
  refine Fn_of Try.func81 rfl rfl (by kernel_rfl) rfl ?_
  refine W_seq ?_
  refine W_region ?_
  refine WL_m rfl (ev_box rfl) ?_
  rintro _ w2 ⟨rfl, hN2⟩
  have hz2 := hN2.size
  replace hE := hE.trans hN2.ext
  have hB2 : Blk w2 _ _ [_, _] := hN2.blk
  refine WL_m rfl (ev_box rfl) ?_
  rintro _ w3 ⟨rfl, hN3⟩
  have hz3 := hN3.size
  replace hE := hE.trans hN3.ext
  replace hB2 := hB2.ext hN3.ext
  have hB3 : Blk w3 _ _ [_, _] := hN3.blk
  refine WL_q rfl (ev_assign rfl) ?_
  refine WL_nil ?_
  refine thenE_n ?_
  refine W_seq ?_
  refine W_seq ?_
  refine W_region ?_
  refine WL_q rfl (ev_fieldAddr fo92_0 rfl) ?_
  refine WL_q rfl (ev_load one3 rfl (hB2.cell rfl)) ?_
  refine WL_q rfl (ev_fieldAddr fo92_0 rfl) ?_
  refine WL_q rfl (ev_load one3 rfl (hB3.cell rfl)) ?_
  refine WL_q rfl (ev_neq rfl rfl) ?_
  refine WL_nil ?_
  refine thenE_n ?_
  refine W_cond rfl (fun hg9 => ?_) (fun hg9 => ?_)
  · have hp9 := of_decide_eq_true hg9
    refine W_seq ?_
    refine W_region ?_
    refine WL_q rfl (ev_assign rfl) ?_
    refine WL_nil ?_
    refine thenE_n ?_
    refine W_ret ?_
    refine thenE_r ?_
    refine ret1 rfl rfl ?_
    exact ⟨by simp_all, hE⟩
  · have hp9 := of_decide_eq_false hg9
    refine W_skip ?_
    refine thenE_n ?_
    refine W_seq ?_
    refine W_seq ?_
    refine W_region ?_
    refine WL_q rfl (ev_fieldAddr fo92_1 rfl) ?_
    refine WL_q rfl (ev_load one3 rfl (hB2.cell rfl)) ?_
    refine WL_q rfl (ev_fieldAddr fo92_1 rfl) ?_
    refine WL_q rfl (ev_load one3 rfl (hB3.cell rfl)) ?_
    refine WL_q rfl (ev_neq rfl rfl) ?_
    refine WL_nil ?_
    refine thenE_n ?_
    refine W_cond rfl (fun hg14 => ?_) (fun hg14 => ?_)
    · have hp14 := of_decide_eq_true hg14
      refine W_seq ?_
      refine W_region ?_
      refine WL_q rfl (ev_assign rfl) ?_
      refine WL_nil ?_
      refine thenE_n ?_
      refine W_ret ?_
      refine thenE_r ?_
      refine ret1 rfl rfl ?_
      exact ⟨by simp_all, hE⟩
    · have hp14 := of_decide_eq_false hg14
      refine W_skip ?_
      refine thenE_n ?_
      refine W_seq ?_
      refine W_region ?_
      refine WL_q rfl (ev_assign rfl) ?_
      refine WL_nil ?_
      refine thenE_n ?_
      refine W_ret ?_
      refine ret1 rfl rfl ?_
      exact ⟨by simp_all, hE⟩

set_option maxRecDepth 100000 in
theorem toValueOpS_spec {lo hi : Nat} (a : Option Addr) (c : Nat) (xs : List (Int × Int)) (w : World) (hx : Pairs lo hi w a c xs) (hhi : hi ≤ w.heap.size) (hn : xs.length ≤ 1048576) :
    Fn Try.prog 40 #[.slice a xs.length c] w (fun v w' => ∃ b, v = .slice (some ⟨b, 0, none⟩) xs.length xs.length ∧ w.heap.size ≤ b ∧ Blk w' b 92 (pairCells xs) ∧ Ext w w') := by
  have hE := Ext.refl w
  refine Fn_of Try.func40 rfl rfl (by kernel_rfl) rfl ?_
  refine W_seq ?_
  refine W_region ?_
  refine WL_q rfl (ev_assign rfl) ?_
  refine WL_nil ?_
  refine thenE_n ?_
  refine W_seq ?_
  refine W_region ?_
  refine WL_q rfl (ev_move rfl) ?_
  refine WL_q rfl (ev_len Try.underlying57 rfl) ?_
  refine WL_m rfl (ev_make2N Try.underlying60 el92 rfl rfl (by omega) (by omega)) ?_
  rintro _ w7 ⟨rfl, hN7⟩
  have hz7 := hN7.size
  replace hE := hE.trans hN7.ext
  replace hx := hx.ext hN7.ext
  have hB7 := hN7.blk
  replace hB7 := hB7.to (fillG_zero (f := pairF) (xs := xs)).symm
  refine WL_q rfl (ev_assign rfl) ?_
  refine WL_nil ?_
  refine thenE_n ?_
  refine W_seq ?_
  refine W_seq ?_
  refine W_region ?_
  refine WL_q rfl (ev_assign rfl) ?_
  refine WL_nil ?_
  refine thenE_n ?_
  refine W_block ?_
  refine W_loopC (G := Nat) [(0, _), (3, _)] ((Subs.c rfl (Subs.c rfl Subs.n))) (fun i => [(4, VI (i : Int))]) (fun i w' => KX (w.heap.size) w7 w' ∧ i ≤ xs.length ∧ Blk w' w.heap.size 92 (fillP xs i)) (fun i => xs.length - i) 0 ((Subs.c (lkI rfl (by omega)) Subs.n)) (⟨KX.refl _ _, ⟨by omega, hB7⟩⟩) ?_
  rintro i wL0 ⟨hRL0, hi, hB7⟩
  have hzL0 := hRL0.size
  replace hx := hx.kx hRL0 (by omega)
  replace hE := hE.kx hRL0 (by omega)
  refine W_seq ?_
  refine W_seq ?_
  refine W_region ?_
  refine WL_q rfl (ev_move rfl) ?_
  refine WL_q rfl (ev_move rfl) ?_
  refine WL_q rfl (ev_len Try.underlying57 rfl) ?_
  refine WL_q rfl (ev_lss rfl rfl) ?_
  refine WL_nil ?_
  refine thenE_n ?_
  refine W_cond rfl (fun hg11 => ?_) (fun hg11 => ?_)
  · have hp11 := of_decide_eq_true hg11
    refine W_skip ?_
    refine thenE_n ?_
    refine W_seq ?_
    refine W_block ?_
    refine W_region ?_
    refine WL_q rfl (ev_move rfl) ?_
    refine WL_q rfl (ev_move rfl) ?_
    refine WL_q rfl (ev_move rfl) ?_
    refine WL_q rfl (ev_move rfl) ?_
    refine WL_q rfl (ev_indexAddr Try.underlying57 sz94 rfl rfl (hx.isSome (by omega)) (by omega) (by omega)) ?_
    refine WL_q rfl (ev_loads st94 sz94 rfl (hx.cells (i := i) (by omega)) rfl) ?_
    refine WL_m rfl (ev_call rfl (toValueOp_spec _ _ _)) ?_
    rintro _ w20 ⟨rfl, hE20⟩
    have hz20 := hE20.size
    replace hE := hE.trans hE20
    replace hRL0 := hRL0.trans hE20
    replace hx := hx.ext hE20
    replace hB7 := hB7.ext hE20
    refine WL_q rfl (ev_indexAddr Try.underlying60 sz92 rfl rfl rfl (by omega) (by omega)) ?_
    refine WL_s (ev_stores sz92 rfl rfl rfl (by simp [Value.oneCell']) hB7 (by rw [fillP_length (by omega)]; simp; omega)) ?_
    rintro _ w5_8 hS5_8
    have hz5_8 := hS5_8.size
    replace hE := hE.sto hS5_8 (by omega)
    replace hRL0 := hRL0.sto hS5_8 (by omega)
    replace hx := hx.sto hS5_8 (by omega)
    replace hB7 := hS5_8.blk
    replace hB7 := fillP_store (by omega) hB7
    refine WL_nil ?_
    refine blockE_n ?_
    refine thenE_n ?_
    refine W_region ?_
    refine WL_q rfl (ev_move rfl) ?_
    refine WL_q rfl (ev_add rfl rfl (by omega)) ?_
    refine WL_q rfl (ev_assign rfl) ?_
    refine WL_nil ?_
    refine thenE_n ?_
    exact ⟨i + 1, (Subs.c rfl (Subs.c rfl Subs.n)), (Subs.c (lkI rfl (by omega)) Subs.n), ⟨hRL0, ⟨by omega, hB7⟩⟩, by first | omega | (dsimp only; omega)⟩
  · have hp11 := of_decide_eq_false hg11
    refine W_exit ?_
    refine thenE_x ?_
    refine thenE_x ?_
    refine blockE_hit ?_
    refine thenE_n ?_
    refine W_seq ?_
    refine W_region ?_
    refine WL_q rfl (ev_move rfl) ?_
    refine WL_q rfl (ev_assign rfl) ?_
    refine WL_nil ?_
    refine thenE_n ?_
    refine W_ret ?_
    refine ret1 rfl rfl ?_
    exact ⟨_, rfl, Nat.le_refl _, hB7.to (fillP_done (by omega)), hE⟩

theorem getElem_eq_of_eq {α : Type} {l m : List α} (h : l = m) {i : Nat} (h1 : i < l.length) (h2 : i < m.length) : l[i] = m[i] := by subst h; rfl
theorem list_eq_of {α : Type} {l m : List α} (hl : l.length = m.length) (h : ∀ i (h1 : i < l.length) (h2 : i < m.length), l[i] = m[i]) : l = m := List.ext_getElem hl h

set_option maxRecDepth 100000 in
theorem eqValueOpS_spec {lo hi lo2 hi2 : Nat} (a a2 : Option Addr) (c c2 : Nat) (xs ys : List (Int × Int)) (w : World) (hx : Pairs lo hi w a c xs) (hy : Pairs lo2 hi2 w a2 c2 ys) (hn : xs.length ≤ 1048576) :
    Fn Try.prog 42 #[.slice a xs.length c, .slice a2 ys.length c2] w (fun v w' => v = VB (decide (xs = ys)) ∧ Ext w w') := by
  have hE := Ext.refl w
  refine Fn_of Try.func42 rfl rfl (by kernel_rfl) rfl ?_
  refine W_seq ?_
  refine W_region ?_
  refine WL_q rfl (ev_assign rfl) ?_
  refine WL_nil ?_
  refine thenE_n ?_
  refine W_seq ?_
  refine W_seq ?_
  refine W_region ?_
  refine WL_q rfl (ev_move rfl) ?_
  refine WL_q rfl (ev_len Try.underlying60 rfl) ?_
  refine WL_q rfl (ev_move rfl) ?_
  refine WL_q rfl (ev_len Try.underlying60 rfl) ?_
  refine WL_q rfl (ev_neq rfl rfl) ?_
  refine WL_nil ?_
  refine thenE_n ?_
  refine W_cond rfl (fun hg10 => ?_) (fun hg10 => ?_)
  · have hp10 := of_decide_eq_true hg10
    refine W_seq ?_
    refine W_region ?_
    refine WL_q rfl (ev_assign rfl) ?_
    refine WL_nil ?_
    refine thenE_n ?_
    refine W_ret ?_
    refine thenE_r ?_
    refine ret1 rfl rfl ?_
    exact ⟨vb (bf fun h => hp10 (by rw [h])), hE⟩
  · have hp10 := of_decide_eq_false hg10
    refine W_skip ?_
    refine thenE_n ?_
    refine W_seq ?_
    refine W_seq ?_
    refine W_region ?_
    refine WL_q rfl (ev_assign rfl) ?_
    refine WL_nil ?_
    refine thenE_n ?_
    refine W_block ?_
    refine W_loopC (G := Nat) [(0, _), (1, _)] ((Subs.c rfl (Subs.c rfl Subs.n))) (fun i => [(5, VI (i : Int))]) (fun i w' => Ext w w' ∧ i ≤ xs.length ∧ ∀ j (h1 : j < i) (h2 : j < xs.length) (h3 : j < ys.length), xs[j] = ys[j]) (fun i => xs.length - i) 0 ((Subs.c (lkI rfl (by omega)) Subs.n)) (⟨Ext.refl _, ⟨by omega, fun j h => by omega⟩⟩) ?_
    rintro i wL0 ⟨hRL0, hi, hJ⟩
    have hzL0 := hRL0.size
    replace hE := hE.trans hRL0
    replace hx := hx.ext hRL0
    replace hy := hy.ext hRL0
    refine W_seq ?_
    refine W_seq ?_
    refine W_region ?_
    refine WL_q rfl (ev_move rfl) ?_
    refine WL_q rfl (ev_move rfl) ?_
    refine WL_q rfl (ev_len Try.underlying60 rfl) ?_
    refine WL_q rfl (ev_lss rfl rfl) ?_
    refine WL_nil ?_
    refine thenE_n ?_
    refine W_cond rfl (fun hg14 => ?_) (fun hg14 => ?_)
    · have hp14 := of_decide_eq_true hg14
      refine W_skip ?_
      refine thenE_n ?_
      refine W_seq ?_
      refine W_block ?_
      refine W_seq ?_
      refine W_drawE [(0, true), (1, true), (2, true), (3, true), (4, true), (5, true), (6, true), (7, true), (8, false), (9, true)] mixed (by kernel_rfl) rfl (by kernel_rfl) ?_
      intro wd6 hEd6 hzd6
      replace hE := hE.trans hEd6
      replace hRL0 := hRL0.trans hEd6
      replace hx := hx.ext hEd6
      replace hy := hy.ext hEd6
      have hDd6 := Ext.refl wd6
      refine PW_q rfl rfl (fun wq hq => ev_move rfl) ?_
      refine PW_q rfl rfl (fun wq hq => ev_move rfl) ?_
      refine PW_q rfl rfl (fun wq hq => ev_indexAddr Try.underlying60 sz92 rfl rfl (hx.isSome (by omega)) (by omega) (by omega)) ?_
      have hc20 := hx.cells (i := i) (by omega)
      refine PW_q rfl rfl (fun wq hq => ev_loads st92 sz92 rfl (hq.cells (hc20)) rfl) ?_
      refine PW_q rfl rfl (fun wq hq => ev_move rfl) ?_
      refine PW_q rfl rfl (fun wq hq => ev_move rfl) ?_
      refine PW_q rfl rfl (fun wq hq => ev_indexAddr Try.underlying60 sz92 rfl rfl (hy.isSome (by omega)) (by omega) (by omega)) ?_
      have hc24 := hy.cells (i := i) (by omega)
      refine PW_q rfl rfl (fun wq hq => ev_loads st92 sz92 rfl (hq.cells (hc24)) rfl) ?_
      refine PW_m rfl rfl (ev_call rfl (eqValueOp_spec _ _ _ _ _)) ?_
      rintro _ w25 ⟨rfl, hE25⟩
      have hz25 := hE25.size
      replace hE := hE.trans hE25
      replace hRL0 := hRL0.trans hE25
      replace hDd6 := hDd6.trans hE25
      refine ⟨hDd6, ?_⟩
      refine PW_q rfl rfl (fun wq hq => ev_not rfl) ?_
      replace hx := hx.ext hDd6
      replace hy := hy.ext hDd6
      refine PW_nil ?_
      refine thenE_n ?_
      refine W_cond rfl (fun hg26 => ?_) (fun hg26 => ?_)
      · have hg25 := not_true hg26
        refine W_seq ?_
        refine W_region ?_
        refine WL_q rfl (ev_assign rfl) ?_
        refine WL_nil ?_
        refine thenE_n ?_
        refine W_ret ?_
        refine blockE_r ?_
        refine thenE_r ?_
        refine thenE_r ?_
        refine blockE_r ?_
        refine thenE_r ?_
        refine ret1 rfl rfl ?_
        exact ⟨vb (bf fun h => by subst h; simp at hg25), hE⟩
      · have hg25 := not_false hg26
        refine W_skip ?_
        refine blockE_n ?_
        refine thenE_n ?_
        refine W_region ?_
        refine WL_q rfl (ev_move rfl) ?_
        refine WL_q rfl (ev_add rfl rfl (by omega)) ?_
        refine WL_q rfl (ev_assign rfl) ?_
        refine WL_nil ?_
        refine thenE_n ?_
        exact ⟨i + 1, (Subs.c rfl (Subs.c rfl Subs.n)), (Subs.c (lkI rfl (by omega)) Subs.n), ⟨hRL0, ⟨by omega, fun j h1 h2 h3 => by
    by_cases hj : j = i
    · subst hj; exact Prod.ext_iff.2 (by simpa using hg25)
    · exact hJ j (by omega) h2 h3⟩⟩, by first | omega | (dsimp only; omega)⟩
    · have hp14 := of_decide_eq_false hg14
      refine W_exit ?_
      refine thenE_x ?_
      refine thenE_x ?_
      refine blockE_hit ?_
      refine thenE_n ?_
      refine W_seq ?_
      refine W_region ?_
      refine WL_q rfl (ev_assign rfl) ?_
      refine WL_nil ?_
      refine thenE_n ?_
      refine W_ret ?_
      refine ret1 rfl rfl ?_
      exact ⟨vb (bt (list_eq_of (by omega) fun j h1 h2 => hJ j (by omega) h1 h2)), hE⟩

/-- The height behind an operation; none if the operation is not valid there. -/
def vStep (h : Int) (p : Int × Int) : Option Int :=
  if inR p.1 1 19 = true ∧ inR p.2 0 (if p.1 = 1 then 1000000 else 0) = true ∧ needs p.1 ≤ h then some (h + (1 - needs p.1)) else none
def vRun (h : Int) (l : List (Int × Int)) : Option Int := l.foldlM vStep h
def vOk (l : List (Int × Int)) : Bool := inR l.length 1 40 && (vRun 0 l == some 1)
theorem needs_bd (k : Int) : 0 ≤ needs k ∧ needs k ≤ 3 := by unfold needs; repeat' split <;> omega
theorem vStep_bd {h h' : Int} {p : Int × Int} (e : vStep h p = some h') : h - 2 ≤ h' ∧ h' ≤ h + 1 ∧ (0 ≤ h → 0 ≤ h') := by
  have := needs_bd p.1
  unfold vStep at e
  by_cases hc : inR p.1 1 19 = true ∧ inR p.2 0 (if p.1 = 1 then 1000000 else 0) = true ∧ needs p.1 ≤ h
  · rw [if_pos hc] at e; simp only [Option.some.injEq] at e; have := hc.2.2; refine ⟨?_, ?_, ?_⟩ <;> omega
  · rw [if_neg hc] at e; cases e
theorem vRun_take_succ {l : List (Int × Int)} {i : Nat} (hi : i < l.length) {h : Int} (e : vRun 0 (l.take i) = some h) : vRun 0 (l.take (i + 1)) = vStep h l[i] := by
  unfold vRun at *
  rw [List.take_succ_eq_append_getElem hi, List.foldlM_append, e]
  simp
theorem vRun_none {l : List (Int × Int)} {i : Nat} (h : vRun 0 (l.take i) = none) : vRun 0 l = none := by
  unfold vRun at *
  rw [← List.take_append_drop i l, List.foldlM_append, h]; rfl
theorem vRun_bd : ∀ (l : List (Int × Int)) (h h' : Int), vRun h l = some h' → 0 ≤ h → 0 ≤ h' ∧ h' ≤ h + l.length := by
  intro l
  induction l with
  | nil => intro h h' e h0; simp [vRun] at e; subst e; simp; omega
  | cons p r ih =>
    intro h h' e h0
    simp only [vRun, List.foldlM_cons] at e
    cases hs : vStep h p with
    | none => rw [hs] at e; cases e
    | some m =>
      rw [hs] at e
      have hb := vStep_bd hs
      have := ih m h' e (hb.2.2 h0)
      simp only [List.length_cons]
      omega
theorem vOk_false_len {l : List (Int × Int)} (h : inR l.length 1 40 = false) : vOk l = false := by simp [vOk, h]
theorem vOk_none {l : List (Int × Int)} {i : Nat} {h : Int} (hi : i < l.length) (e : vRun 0 (l.take i) = some h) (hn : vStep h l[i] = none) : vOk l = false := by
  have := vRun_none (i := i + 1) (by rw [vRun_take_succ hi e]; exact hn)
  simp [vOk, this]
theorem vOk_end {l : List (Int × Int)} {h : Int} {i : Nat} (hl : inR l.length 1 40 = true) (e : vRun 0 (l.take i) = some h) (hi : ¬ ((i : Int) < l.length)) : vOk l = decide (h = 1) := by
  rw [List.take_of_length_le (by omega)] at e
  simp only [vOk, hl, e, Bool.true_and]
  by_cases h1 : h = 1 <;> simp [h1]
theorem vStep_none {h : Int} {p : Int × Int} (hc : ¬ (inR p.1 1 19 = true ∧ inR p.2 0 (if p.1 = 1 then 1000000 else 0) = true ∧ needs p.1 ≤ h)) : vStep h p = none := by unfold vStep; rw [if_neg hc]
theorem vStep_some {h : Int} {p : Int × Int} (h1 : inR p.1 1 19 = true) (h2 : inR p.2 0 (if p.1 = 1 then 1000000 else 0) = true) (h3 : needs p.1 ≤ h) : vStep h p = some (h + (1 - needs p.1)) := by unfold vStep; rw [if_pos ⟨h1, h2, h3⟩]
theorem vaNeeds_eq {k : Int} (h : inR k 1 19 = true) : vaNeeds k = needs k := by
  rw [inR_true] at h; unfold vaNeeds needs; repeat' split <;> omega

theorem vBad1 {h : Int} {p : Int × Int} (h1 : inR p.1 1 19 = false) : vStep h p = none := vStep_none fun hc => by rw [h1] at hc; exact absurd hc.1 (by simp)
theorem vBad2 {h : Int} {p : Int × Int} (h1 : inR p.2 0 1000000 = false) : vStep h p = none := vStep_none fun hc => by
  rw [inR_false] at h1; have := inR_true.1 hc.2.1; split at this <;> omega
theorem vBad3 {h : Int} {p : Int × Int} (h1 : p.1 ≠ 1) (h2 : p.2 ≠ 0) : vStep h p = none := vStep_none fun hc => by
  have := inR_true.1 hc.2.1; rw [if_neg h1] at this; omega
theorem vBad4 {h : Int} {p : Int × Int} (h2 : h < needs p.1) : vStep h p = none := vStep_none fun hc => by have := hc.2.2; omega
theorem vBad5 {h : Int} {p : Int × Int} (h2 : p.1 = 1) (h1 : inR p.2 0 1000000 = false) : vStep h p = none := vStep_none fun hc => by rw [if_pos h2, h1] at hc; exact absurd hc.2.1 (by simp)
theorem vBad6 {h : Int} {p : Int × Int} (h2 : ¬ p.1 = 1) (h1 : inR p.2 0 0 = false) : vStep h p = none := vStep_none fun hc => by rw [if_neg h2, h1] at hc; exact absurd hc.2.1 (by simp)
theorem vGood1 {p : Int × Int} (h1 : inR p.2 0 1000000 = true) (h2 : p.1 = 1) : inR p.2 0 (if p.1 = 1 then 1000000 else 0) = true := by rw [if_pos h2]; exact h1
theorem vGood2 {p : Int × Int} (h2 : p.1 ≠ 1) (h3 : p.2 = 0) : inR p.2 0 (if p.1 = 1 then 1000000 else 0) = true := by rw [if_neg h2, inR_true]; omega
theorem vaNeeds_bd (k : Int) : 0 ≤ vaNeeds k ∧ vaNeeds k ≤ 3 := by unfold vaNeeds; repeat' split <;> omega

set_option maxRecDepth 100000 in
theorem vaGood_spec {lo hi : Nat} (a : Option Addr) (c : Nat) (xs : List (Int × Int)) (w : World) (hx : Pairs lo hi w a c xs) (hhi : hi ≤ w.heap.size) :
    Fn Try.prog 71 #[.slice a xs.length c] w (fun v w' => v = VB (vOk xs) ∧ Ext w w') := by
  have hE := Ext.refl w
  refine Fn_of Try.func71 rfl rfl (by kernel_rfl) rfl ?_
  refine W_seq ?_
  refine W_region ?_
  refine WL_q rfl (ev_assign rfl) ?_
  refine WL_nil ?_
  refine thenE_n ?_
  refine W_seq ?_
  refine W_seq ?_
  refine W_region ?_
  refine WL_q rfl (ev_move rfl) ?_
  refine WL_q rfl (ev_len Try.underlying60 rfl) ?_
  refine WL_m rfl (ev_call rfl (l1In_spec _ _ _ _)) ?_
  rintro _ _ ⟨rfl, rfl⟩
  refine WL_q rfl (ev_not rfl) ?_
  refine WL_nil ?_
  refine thenE_n ?_
  refine W_cond rfl (fun hg9 => ?_) (fun hg9 => ?_)
  · have hg8 := not_true hg9
    have hp8 := inR_false.1 hg8
    refine W_seq ?_
    refine W_region ?_
    refine WL_q rfl (ev_assign rfl) ?_
    refine WL_nil ?_
    refine thenE_n ?_
    refine W_ret ?_
    refine thenE_r ?_
    refine ret1 rfl rfl ?_
    first | exact ⟨vb (vOk_false_len hg8).symm, hE⟩ | exact ⟨vb (vOk_end hg8 hJ hp13).symm, hE⟩ | exact ⟨vb (vOk_none (i := i) (by omega) hJ (by first | exact vBad1 hg18 | exact vBad2 hg23 | exact vBad3 hp29 hp33 | exact vBad4 (by rw [← vaNeeds_eq hg18]; exact hp41))).symm, hE⟩
  · have hg8 := not_false hg9
    have hp8 := inR_true.1 hg8
    refine W_skip ?_
    refine thenE_n ?_
    refine W_seq ?_
    refine W_region ?_
    refine WL_q rfl (ev_assign rfl) ?_
    refine WL_nil ?_
    refine thenE_n ?_
    refine W_seq ?_
    refine W_seq ?_
    refine W_region ?_
    refine WL_q rfl (ev_move rfl) ?_
    refine WL_q rfl (ev_len Try.underlying60 rfl) ?_
    refine WL_q rfl (ev_move rfl) ?_
    refine WL_nil ?_
    refine thenE_n ?_
    refine W_block ?_
    refine W_loopC (G := Nat × Int) [(10, _), (11, _)] ((Subs.c rfl (Subs.c rfl Subs.n))) (fun ⟨i, h⟩ => [(3, VI h), (12, VI (i : Int))]) (fun ⟨i, h⟩ w' => Ext w w' ∧ i ≤ xs.length ∧ vRun 0 (xs.take i) = some h) (fun g => xs.length - g.1) (0, 0) ((Subs.c (lkI rfl (by omega)) (Subs.c (lkI rfl (by omega)) Subs.n))) (⟨Ext.refl _, ⟨by simp, by simp [vRun]⟩⟩) ?_
    rintro ⟨i, h⟩ wL0 ⟨hRL0, hi, hJ⟩
    have hzL0 := hRL0.size
    replace hE := hE.trans hRL0
    replace hx := hx.ext hRL0
    have hl40 := inR_true.1 hg8
    have hbd := vRun_bd _ _ _ hJ (by omega)
    have hlt := List.length_take_le i xs
    refine W_seq ?_
    refine W_region ?_
    refine WL_q rfl (ev_lss rfl rfl) ?_
    refine WL_nil ?_
    refine thenE_n ?_
    refine W_seq ?_
    refine W_cond rfl (fun hg13 => ?_) (fun hg13 => ?_)
    · have hp13 := of_decide_eq_true hg13
      refine W_skip ?_
      refine thenE_n ?_
      refine W_seq ?_
      refine W_block ?_
      refine W_seq ?_
      refine W_region ?_
      have hnb := vaNeeds_bd xs[i].1
      refine WL_q rfl (ev_indexAddr Try.underlying60 sz92 rfl rfl (hx.isSome (by omega)) (by omega) (by omega)) ?_
      refine WL_q rfl (ev_loads st92 sz92 rfl (hx.cells (i := i) (by omega)) rfl) ?_
      refine WL_m rfl (ev_alloc zr92) ?_
      rintro _ w5 ⟨rfl, hN5⟩
      have hz5 := hN5.size
      replace hE := hE.trans hN5.ext
      replace hRL0 := hRL0.trans hN5.ext
      replace hx := hx.ext hN5.ext
      have hB5 : Blk w5 _ _ [_, _] := hN5.blk
      refine WL_s (ev_stores sz92 rfl rfl rfl (by simp [Value.oneCell']) hB5 (by simp)) ?_
      rintro _ w6_3 hS6_3
      have hz6_3 := hS6_3.size
      replace hE := hE.sto hS6_3 (by omega)
      replace hRL0 := hRL0.sto hS6_3 (by omega)
      replace hx := hx.sto hS6_3 (by omega)
      replace hB5 : Blk w6_3 _ _ [_, _] := hS6_3.blk
      refine WL_nil ?_
      refine thenE_n ?_
      refine W_seq ?_
      refine W_seq ?_
      refine W_region ?_
      refine WL_q rfl (ev_fieldAddr fo92_0 rfl) ?_
      refine WL_q rfl (ev_load one3 rfl (hB5.cell rfl)) ?_
      refine WL_m rfl (ev_call rfl (l1In_spec _ _ _ _)) ?_
      rintro _ _ ⟨rfl, rfl⟩
      refine WL_q rfl (ev_not rfl) ?_
      refine WL_q rfl (ev_move rfl) ?_
      refine WL_splitv (t := 20) rfl (fun hg19 => ?_) (fun hg19 => ?_)
      · have hg18 := not_true hg19
        have hp18 := inR_false.1 hg18
        refine WL_no rfl rfl hg19 rfl ?_
        refine WL_no rfl rfl hg19 rfl ?_
        refine WL_no rfl rfl hg19 rfl ?_
        refine WL_no rfl rfl hg19 rfl ?_
        refine WL_q rfl (ev_pick_t rfl hg19 rfl) ?_
        refine WL_q rfl (ev_move rfl) ?_
        refine WL_no rfl rfl rfl rfl ?_
        refine WL_no rfl rfl rfl rfl ?_
        refine WL_no rfl rfl rfl rfl ?_
        refine WL_no rfl rfl rfl rfl ?_
        refine WL_nou rfl rfl rfl ?_
        refine WL_nou rfl rfl rfl ?_
        refine WL_nou rfl rfl rfl ?_
        refine WL_no rfl rfl rfl rfl ?_
        refine WL_q rfl (ev_pick_t rfl rfl rfl) ?_
        refine WL_q rfl (ev_move rfl) ?_
        refine WL_no rfl rfl rfl rfl ?_
        refine WL_no rfl rfl rfl rfl ?_
        refine WL_no rfl rfl rfl rfl ?_
        refine WL_no rfl rfl rfl rfl ?_
        refine WL_no rfl rfl rfl rfl ?_
        refine WL_q rfl (ev_pick_t rfl rfl rfl) ?_
        refine WL_nil ?_
        refine thenE_n ?_
        refine W_cond_t rfl ?_
        refine W_seq ?_
        refine W_region ?_
        refine WL_q rfl (ev_assign rfl) ?_
        refine WL_nil ?_
        refine thenE_n ?_
        refine W_ret ?_
        refine thenE_r ?_
        refine blockE_r ?_
        refine thenE_r ?_
        refine thenE_r ?_
        refine blockE_r ?_
        refine thenE_r ?_
        refine ret1 rfl rfl ?_
        first | exact ⟨vb (vOk_false_len hg8).symm, hE⟩ | exact ⟨vb (vOk_end hg8 hJ hp13).symm, hE⟩ | exact ⟨vb (vOk_none (i := i) (by omega) hJ (by first | exact vBad1 hg18 | exact vBad2 hg23 | exact vBad3 hp29 hp33 | exact vBad4 (by rw [← vaNeeds_eq hg18]; exact hp41))).symm, hE⟩
      · have hg18 := not_false hg19
        have hp18 := inR_true.1 hg18
        refine WL_qg rfl rfl hg19 rfl (ev_fieldAddr fo92_1 rfl) ?_
        refine WL_qg rfl rfl hg19 rfl (ev_load one3 rfl (hB5.cell rfl)) ?_
        refine WL_mg rfl rfl hg19 rfl (ev_call rfl (l1In_spec _ _ _ _)) ?_
        rintro _ _ ⟨rfl, rfl⟩
        refine WL_qg rfl rfl hg19 rfl (ev_not rfl) ?_
        refine WL_q rfl (ev_pick_f rfl hg19 rfl) ?_
        refine WL_q rfl (ev_move rfl) ?_
        refine WL_splitv (t := 26) rfl (fun hg24 => ?_) (fun hg24 => ?_)
        · have hg23 := not_true hg24
          have hp23 := inR_false.1 hg23
          refine WL_no rfl rfl hg24 rfl ?_
          refine WL_no rfl rfl hg24 rfl ?_
          refine WL_no rfl rfl hg24 rfl ?_
          refine WL_no rfl rfl hg24 rfl ?_
          refine WL_nou rfl rfl rfl ?_
          refine WL_nou rfl rfl rfl ?_
          refine WL_nou rfl rfl rfl ?_
          refine WL_no rfl rfl hg24 rfl ?_
          refine WL_q rfl (ev_pick_t rfl hg24 rfl) ?_
          refine WL_q rfl (ev_move rfl) ?_
          refine WL_no rfl rfl rfl rfl ?_
          refine WL_no rfl rfl rfl rfl ?_
          refine WL_no rfl rfl rfl rfl ?_
          refine WL_no rfl rfl rfl rfl ?_
          refine WL_no rfl rfl rfl rfl ?_
          refine WL_q rfl (ev_pick_t rfl rfl rfl) ?_
          refine WL_nil ?_
          refine thenE_n ?_
          refine W_cond_t rfl ?_
          refine W_seq ?_
          refine W_region ?_
          refine WL_q rfl (ev_assign rfl) ?_
          refine WL_nil ?_
          refine thenE_n ?_
          refine W_ret ?_
          refine thenE_r ?_
          refine blockE_r ?_
          refine thenE_r ?_
          refine thenE_r ?_
          refine blockE_r ?_
          refine thenE_r ?_
          refine ret1 rfl rfl ?_
          first | exact ⟨vb (vOk_false_len hg8).symm, hE⟩ | exact ⟨vb (vOk_end hg8 hJ hp13).symm, hE⟩ | exact ⟨vb (vOk_none (i := i) (by omega) hJ (by first | exact vBad1 hg18 | exact vBad2 hg23 | exact vBad3 hp29 hp33 | exact vBad4 (by rw [← vaNeeds_eq hg18]; exact hp41))).symm, hE⟩
        · have hg23 := not_false hg24
          have hp23 := inR_true.1 hg23
          refine WL_qg rfl rfl hg24 rfl (ev_fieldAddr fo92_0 rfl) ?_
          refine WL_qg rfl rfl hg24 rfl (ev_load one3 rfl (hB5.cell rfl)) ?_
          refine WL_qg rfl rfl hg24 rfl (ev_neq rfl rfl) ?_
          refine WL_qg rfl rfl hg24 rfl (ev_move rfl) ?_
          refine WL_splitv (t := 30) rfl (fun hg29 => ?_) (fun hg29 => ?_)
          · have hp29 := of_decide_eq_true hg29
            refine WL_qg rfl rfl hg29 rfl (ev_fieldAddr fo92_1 rfl) ?_
            refine WL_qg rfl rfl hg29 rfl (ev_load one3 rfl (hB5.cell rfl)) ?_
            refine WL_qg rfl rfl hg29 rfl (ev_neq rfl rfl) ?_
            refine WL_qg rfl rfl hg24 rfl (ev_pick_t rfl hg29 rfl) ?_
            refine WL_q rfl (ev_pick_f rfl hg24 rfl) ?_
            refine WL_q rfl (ev_move rfl) ?_
            refine WL_splitv (t := 36) rfl (fun hg33 => ?_) (fun hg33 => ?_)
            · have hp33 := of_decide_eq_true hg33
              refine WL_no rfl rfl hg33 rfl ?_
              refine WL_no rfl rfl hg33 rfl ?_
              refine WL_no rfl rfl hg33 rfl ?_
              refine WL_no rfl rfl hg33 rfl ?_
              refine WL_no rfl rfl hg33 rfl ?_
              refine WL_q rfl (ev_pick_t rfl hg33 rfl) ?_
              refine WL_nil ?_
              refine thenE_n ?_
              refine W_cond_t rfl ?_
              refine W_seq ?_
              refine W_region ?_
              refine WL_q rfl (ev_assign rfl) ?_
              refine WL_nil ?_
              refine thenE_n ?_
              refine W_ret ?_
              refine thenE_r ?_
              refine blockE_r ?_
              refine thenE_r ?_
              refine thenE_r ?_
              refine blockE_r ?_
              refine thenE_r ?_
              refine ret1 rfl rfl ?_
              first | exact ⟨vb (vOk_false_len hg8).symm, hE⟩ | exact ⟨vb (vOk_end hg8 hJ hp13).symm, hE⟩ | exact ⟨vb (vOk_none (i := i) (by omega) hJ (by first | exact vBad1 hg18 | exact vBad2 hg23 | exact vBad3 hp29 hp33 | exact vBad4 (by rw [← vaNeeds_eq hg18]; exact hp41))).symm, hE⟩
            · have hp33 := of_decide_eq_false hg33
              refine WL_qg rfl rfl hg33 rfl (ev_move rfl) ?_
              refine WL_qg rfl rfl hg33 rfl (ev_fieldAddr fo92_0 rfl) ?_
              refine WL_qg rfl rfl hg33 rfl (ev_load one3 rfl (hB5.cell rfl)) ?_
              refine WL_mg rfl rfl hg33 rfl (ev_call rfl (vaNeeds_spec _ _)) ?_
              rintro _ _ ⟨rfl, rfl⟩
              refine WL_qg rfl rfl hg33 rfl (ev_lss rfl rfl) ?_
              refine WL_q rfl (ev_pick_f rfl hg33 rfl) ?_
              refine WL_nil ?_
              refine thenE_n ?_
              refine W_cond rfl (fun hg41 => ?_) (fun hg41 => ?_)
              · have hp41 := of_decide_eq_true hg41
                refine W_seq ?_
                refine W_region ?_
                refine WL_q rfl (ev_assign rfl) ?_
                refine WL_nil ?_
                refine thenE_n ?_
                refine W_ret ?_
                refine thenE_r ?_
                refine blockE_r ?_
                refine thenE_r ?_
                refine thenE_r ?_
                refine blockE_r ?_
                refine thenE_r ?_
                refine ret1 rfl rfl ?_
                first | exact ⟨vb (vOk_false_len hg8).symm, hE⟩ | exact ⟨vb (vOk_end hg8 hJ hp13).symm, hE⟩ | exact ⟨vb (vOk_none (i := i) (by omega) hJ (by first | exact vBad1 hg18 | exact vBad2 hg23 | exact vBad3 hp29 hp33 | exact vBad4 (by rw [← vaNeeds_eq hg18]; exact hp41))).symm, hE⟩
              · have hp41 := of_decide_eq_false hg41
                refine W_skip ?_
                refine thenE_n ?_
                refine W_region ?_
                refine WL_q rfl (ev_move rfl) ?_
                refine WL_q rfl (ev_fieldAddr fo92_0 rfl) ?_
                refine WL_q rfl (ev_load one3 rfl (hB5.cell rfl)) ?_
                refine WL_m rfl (ev_call rfl (vaNeeds_spec _ _)) ?_
                rintro _ _ ⟨rfl, rfl⟩
                refine WL_q rfl (ev_sub rfl rfl (by omega)) ?_
                refine WL_q rfl (ev_add rfl rfl (by omega)) ?_
                refine WL_q rfl (ev_assign rfl) ?_
                refine WL_nil ?_
                refine blockE_n ?_
                refine thenE_n ?_
                refine W_region ?_
                refine WL_q rfl (ev_add rfl rfl (by omega)) ?_
                refine WL_q rfl (ev_move rfl) ?_
                refine WL_nil ?_
                refine thenE_n ?_
                exact ⟨(i + 1, h + (1 - vaNeeds xs[i].1)), (Subs.c rfl (Subs.c rfl Subs.n)), (Subs.c (lkI rfl (by omega)) (Subs.c (lkI rfl (by omega)) Subs.n)), ⟨hRL0, ⟨by omega, by rw [vRun_take_succ (by omega) hJ, vaNeeds_eq hg18]; exact vStep_some hg18 (by first | exact vGood2 hp29 (by omega) | exact vGood1 hg23 (by omega)) (by rw [← vaNeeds_eq hg18]; omega)⟩⟩, by first | omega | (dsimp only; omega)⟩
          · have hp29 := of_decide_eq_false hg29
            refine WL_no rfl rfl hg29 rfl ?_
            refine WL_no rfl rfl hg29 rfl ?_
            refine WL_no rfl rfl hg29 rfl ?_
            refine WL_qg rfl rfl hg24 rfl (ev_pick_f rfl hg29 rfl) ?_
            refine WL_q rfl (ev_pick_f rfl hg24 rfl) ?_
            refine WL_q rfl (ev_move rfl) ?_
            refine WL_qg rfl rfl rfl rfl (ev_move rfl) ?_
            refine WL_qg rfl rfl rfl rfl (ev_fieldAddr fo92_0 rfl) ?_
            refine WL_qg rfl rfl rfl rfl (ev_load one3 rfl (hB5.cell rfl)) ?_
            refine WL_mg rfl rfl rfl rfl (ev_call rfl (vaNeeds_spec _ _)) ?_
            rintro _ _ ⟨rfl, rfl⟩
            refine WL_qg rfl rfl rfl rfl (ev_lss rfl rfl) ?_
            refine WL_q rfl (ev_pick_f rfl rfl rfl) ?_
            refine WL_nil ?_
            refine thenE_n ?_
            refine W_cond rfl (fun hg41 => ?_) (fun hg41 => ?_)
            · have hp41 := of_decide_eq_true hg41
              refine W_seq ?_
              refine W_region ?_
              refine WL_q rfl (ev_assign rfl) ?_
              refine WL_nil ?_
              refine thenE_n ?_
              refine W_ret ?_
              refine thenE_r ?_
              refine blockE_r ?_
              refine thenE_r ?_
              refine thenE_r ?_
              refine blockE_r ?_
              refine thenE_r ?_
              refine ret1 rfl rfl ?_
              first | exact ⟨vb (vOk_false_len hg8).symm, hE⟩ | exact ⟨vb (vOk_end hg8 hJ hp13).symm, hE⟩ | exact ⟨vb (vOk_none (i := i) (by omega) hJ (by first | exact vBad1 hg18 | exact vBad2 hg23 | exact vBad3 hp29 hp33 | exact vBad4 (by rw [← vaNeeds_eq hg18]; exact hp41))).symm, hE⟩
            · have hp41 := of_decide_eq_false hg41
              refine W_skip ?_
              refine thenE_n ?_
              refine W_region ?_
              refine WL_q rfl (ev_move rfl) ?_
              refine WL_q rfl (ev_fieldAddr fo92_0 rfl) ?_
              refine WL_q rfl (ev_load one3 rfl (hB5.cell rfl)) ?_
              refine WL_m rfl (ev_call rfl (vaNeeds_spec _ _)) ?_
              rintro _ _ ⟨rfl, rfl⟩
              refine WL_q rfl (ev_sub rfl rfl (by omega)) ?_
              refine WL_q rfl (ev_add rfl rfl (by omega)) ?_
              refine WL_q rfl (ev_assign rfl) ?_
              refine WL_nil ?_
              refine blockE_n ?_
              refine thenE_n ?_
              refine W_region ?_
              refine WL_q rfl (ev_add rfl rfl (by omega)) ?_
              refine WL_q rfl (ev_move rfl) ?_
              refine WL_nil ?_
              refine thenE_n ?_
              exact ⟨(i + 1, h + (1 - vaNeeds xs[i].1)), (Subs.c rfl (Subs.c rfl Subs.n)), (Subs.c (lkI rfl (by omega)) (Subs.c (lkI rfl (by omega)) Subs.n)), ⟨hRL0, ⟨by omega, by rw [vRun_take_succ (by omega) hJ, vaNeeds_eq hg18]; exact vStep_some hg18 (by first | exact vGood2 hp29 (by omega) | exact vGood1 hg23 (by omega)) (by rw [← vaNeeds_eq hg18]; omega)⟩⟩, by first | omega | (dsimp only; omega)⟩
    · have hp13 := of_decide_eq_false hg13
      refine W_exit ?_
      refine thenE_x ?_
      refine thenE_x ?_
      refine blockE_hit ?_
      refine thenE_n ?_
      refine W_seq ?_
      refine W_region ?_
      refine WL_q rfl (ev_move rfl) ?_
      refine WL_q rfl (ev_eql rfl rfl) ?_
      refine WL_q rfl (ev_assign rfl) ?_
      refine WL_nil ?_
      refine thenE_n ?_
      refine W_ret ?_
      refine ret1 rfl rfl ?_
      first | exact ⟨vb (vOk_false_len hg8).symm, hE⟩ | exact ⟨vb (vOk_end hg8 hJ hp13).symm, hE⟩ | exact ⟨vb (vOk_none (i := i) (by omega) hJ (by first | exact vBad1 hg18 | exact vBad2 hg23 | exact vBad3 hp29 hp33 | exact vBad4 (by rw [← vaNeeds_eq hg18]; exact hp41))).symm, hE⟩

set_option maxRecDepth 100000 in
theorem IsValueProgram_spec {lo hi : Nat} (a : Option Addr) (c : Nat) (xs : List (Int × Int)) (w : World) (hx : Pairs lo hi w a c xs) (hhi : hi ≤ w.heap.size) :
    Fn Try.prog 76 #[.slice a xs.length c] w (fun v w' => v = VB (vOk xs) ∧ Ext w w') := by
  have hE := Ext.refl w
  refine Fn_of Try.func76 rfl rfl (by kernel_rfl) rfl ?_
  refine W_seq ?_
  refine W_region ?_
  refine WL_q rfl (ev_assign rfl) ?_
  refine WL_nil ?_
  refine thenE_n ?_
  refine W_seq ?_
  refine W_seq ?_
  refine W_region ?_
  refine WL_q rfl (ev_move rfl) ?_
  refine WL_q rfl (ev_len Try.underlying60 rfl) ?_
  refine WL_m rfl (ev_call rfl (within_spec _ _ _ _)) ?_
  rintro _ _ ⟨rfl, rfl⟩
  refine WL_q rfl (ev_not rfl) ?_
  refine WL_nil ?_
  refine thenE_n ?_
  refine W_cond rfl (fun hg10 => ?_) (fun hg10 => ?_)
  · have hg9 := not_true hg10
    have hp9 := inR_false.1 hg9
    refine W_seq ?_
    refine W_region ?_
    refine WL_q rfl (ev_assign rfl) ?_
    refine WL_nil ?_
    refine thenE_n ?_
    refine W_ret ?_
    refine thenE_r ?_
    refine ret1 rfl rfl ?_
    first | exact ⟨vb (vOk_false_len hg9).symm, hE⟩ | exact ⟨vb (vOk_end hg9 hJ hp14).symm, hE⟩ | exact ⟨vb (vOk_none (i := i) (by omega) hJ (by first | exact vBad1 hg22 | exact vBad5 hp19 hg28 | exact vBad6 hp19 hg28 | exact vBad4 hp35)).symm, hE⟩
  · have hg9 := not_false hg10
    have hp9 := inR_true.1 hg9
    refine W_skip ?_
    refine thenE_n ?_
    refine W_seq ?_
    refine W_region ?_
    refine WL_q rfl (ev_assign rfl) ?_
    refine WL_nil ?_
    refine thenE_n ?_
    refine W_seq ?_
    refine W_seq ?_
    refine W_region ?_
    refine WL_q rfl (ev_move rfl) ?_
    refine WL_q rfl (ev_len Try.underlying60 rfl) ?_
    refine WL_q rfl (ev_move rfl) ?_
    refine WL_nil ?_
    refine thenE_n ?_
    refine W_block ?_
    refine W_loopC (G := Nat × Int) [(11, _), (12, _)] ((Subs.c rfl (Subs.c rfl Subs.n))) (fun ⟨i, h⟩ => [(3, VI h), (13, VI (i : Int))]) (fun ⟨i, h⟩ w' => Ext w w' ∧ i ≤ xs.length ∧ vRun 0 (xs.take i) = some h) (fun g => xs.length - g.1) (0, 0) ((Subs.c (lkI rfl (by omega)) (Subs.c (lkI rfl (by omega)) Subs.n))) (⟨Ext.refl _, ⟨by simp, by simp [vRun]⟩⟩) ?_
    rintro ⟨i, h⟩ wL0 ⟨hRL0, hi, hJ⟩
    have hzL0 := hRL0.size
    replace hE := hE.trans hRL0
    replace hx := hx.ext hRL0
    have hl40 := inR_true.1 hg9
    have hbd := vRun_bd _ _ _ hJ (by omega)
    have hlt := List.length_take_le i xs
    refine W_seq ?_
    refine W_region ?_
    refine WL_q rfl (ev_lss rfl rfl) ?_
    refine WL_nil ?_
    refine thenE_n ?_
    refine W_seq ?_
    refine W_cond rfl (fun hg14 => ?_) (fun hg14 => ?_)
    · have hp14 := of_decide_eq_true hg14
      refine W_skip ?_
      refine thenE_n ?_
      refine W_seq ?_
      refine W_block ?_
      refine W_seq ?_
      refine W_region ?_
      have hnb := needs_bd xs[i].1
      refine WL_q rfl (ev_indexAddr Try.underlying60 sz92 rfl rfl (hx.isSome (by omega)) (by omega) (by omega)) ?_
      refine WL_q rfl (ev_loads st92 sz92 rfl (hx.cells (i := i) (by omega)) rfl) ?_
      refine WL_m rfl (ev_alloc zr92) ?_
      rintro _ w5 ⟨rfl, hN5⟩
      have hz5 := hN5.size
      replace hE := hE.trans hN5.ext
      replace hRL0 := hRL0.trans hN5.ext
      replace hx := hx.ext hN5.ext
      have hB5 : Blk w5 _ _ [_, _] := hN5.blk
      refine WL_s (ev_stores sz92 rfl rfl rfl (by simp [Value.oneCell']) hB5 (by simp)) ?_
      rintro _ w6_3 hS6_3
      have hz6_3 := hS6_3.size
      replace hE := hE.sto hS6_3 (by omega)
      replace hRL0 := hRL0.sto hS6_3 (by omega)
      replace hx := hx.sto hS6_3 (by omega)
      replace hB5 : Blk w6_3 _ _ [_, _] := hS6_3.blk
      refine WL_nil ?_
      refine thenE_n ?_
      refine W_seq ?_
      refine W_region ?_
      refine WL_q rfl (ev_assign rfl) ?_
      refine WL_nil ?_
      refine thenE_n ?_
      refine W_seq ?_
      refine W_seq ?_
      refine W_region ?_
      refine WL_q rfl (ev_fieldAddr fo92_0 rfl) ?_
      refine WL_q rfl (ev_load one3 rfl (hB5.cell rfl)) ?_
      refine WL_q rfl (ev_eql rfl rfl) ?_
      refine WL_nil ?_
      refine thenE_n ?_
      refine W_cond rfl (fun hg19 => ?_) (fun hg19 => ?_)
      · have hp19 := of_decide_eq_true hg19
        refine W_region ?_
        refine WL_q rfl (ev_assign rfl) ?_
        refine WL_nil ?_
        refine thenE_n ?_
        refine W_seq ?_
        refine W_seq ?_
        refine W_region ?_
        refine WL_q rfl (ev_fieldAddr fo92_0 rfl) ?_
        refine WL_q rfl (ev_load one3 rfl (hB5.cell rfl)) ?_
        refine WL_m rfl (ev_call rfl (within_spec _ _ _ _)) ?_
        rintro _ _ ⟨rfl, rfl⟩
        refine WL_q rfl (ev_not rfl) ?_
        refine WL_q rfl (ev_move rfl) ?_
        refine WL_splitv (t := 24) rfl (fun hg23 => ?_) (fun hg23 => ?_)
        · have hg22 := not_true hg23
          have hp22 := inR_false.1 hg22
          refine WL_no rfl rfl hg23 rfl ?_
          refine WL_no rfl rfl hg23 rfl ?_
          refine WL_no rfl rfl hg23 rfl ?_
          refine WL_no rfl rfl hg23 rfl ?_
          refine WL_no rfl rfl hg23 rfl ?_
          refine WL_q rfl (ev_pick_t rfl hg23 rfl) ?_
          refine WL_q rfl (ev_move rfl) ?_
          refine WL_no rfl rfl rfl rfl ?_
          refine WL_no rfl rfl rfl rfl ?_
          refine WL_no rfl rfl rfl rfl ?_
          refine WL_no rfl rfl rfl rfl ?_
          refine WL_q rfl (ev_pick_t rfl rfl rfl) ?_
          refine WL_nil ?_
          refine thenE_n ?_
          refine W_cond_t rfl ?_
          refine W_seq ?_
          refine W_region ?_
          refine WL_q rfl (ev_assign rfl) ?_
          refine WL_nil ?_
          refine thenE_n ?_
          refine W_ret ?_
          refine thenE_r ?_
          refine blockE_r ?_
          refine thenE_r ?_
          refine thenE_r ?_
          refine blockE_r ?_
          refine thenE_r ?_
          refine ret1 rfl rfl ?_
          first | exact ⟨vb (vOk_false_len hg9).symm, hE⟩ | exact ⟨vb (vOk_end hg9 hJ hp14).symm, hE⟩ | exact ⟨vb (vOk_none (i := i) (by omega) hJ (by first | exact vBad1 hg22 | exact vBad5 hp19 hg28 | exact vBad6 hp19 hg28 | exact vBad4 hp35)).symm, hE⟩
        · have hg22 := not_false hg23
          have hp22 := inR_true.1 hg22
          refine WL_qg rfl rfl hg23 rfl (ev_fieldAddr fo92_1 rfl) ?_
          refine WL_qg rfl rfl hg23 rfl (ev_load one3 rfl (hB5.cell rfl)) ?_
          refine WL_qg rfl rfl hg23 rfl (ev_move rfl) ?_
          refine WL_mg rfl rfl hg23 rfl (ev_call rfl (within_spec _ _ _ _)) ?_
          rintro _ _ ⟨rfl, rfl⟩
          refine WL_qg rfl rfl hg23 rfl (ev_not rfl) ?_
          refine WL_q rfl (ev_pick_f rfl hg23 rfl) ?_
          refine WL_q rfl (ev_move rfl) ?_
          refine WL_splitv (t := 31) rfl (fun hg29 => ?_) (fun hg29 => ?_)
          · have hg28 := not_true hg29
            have hp28 := inR_false.1 hg28
            refine WL_no rfl rfl hg29 rfl ?_
            refine WL_no rfl rfl hg29 rfl ?_
            refine WL_no rfl rfl hg29 rfl ?_
            refine WL_no rfl rfl hg29 rfl ?_
            refine WL_q rfl (ev_pick_t rfl hg29 rfl) ?_
            refine WL_nil ?_
            refine thenE_n ?_
            refine W_cond_t rfl ?_
            refine W_seq ?_
            refine W_region ?_
            refine WL_q rfl (ev_assign rfl) ?_
            refine WL_nil ?_
            refine thenE_n ?_
            refine W_ret ?_
            refine thenE_r ?_
            refine blockE_r ?_
            refine thenE_r ?_
            refine thenE_r ?_
            refine blockE_r ?_
            refine thenE_r ?_
            refine ret1 rfl rfl ?_
            first | exact ⟨vb (vOk_false_len hg9).symm, hE⟩ | exact ⟨vb (vOk_end hg9 hJ hp14).symm, hE⟩ | exact ⟨vb (vOk_none (i := i) (by omega) hJ (by first | exact vBad1 hg22 | exact vBad5 hp19 hg28 | exact vBad6 hp19 hg28 | exact vBad4 hp35)).symm, hE⟩
          · have hg28 := not_false hg29
            have hp28 := inR_true.1 hg28
            refine WL_qg rfl rfl hg29 rfl (ev_move rfl) ?_
            refine WL_qg rfl rfl hg29 rfl (ev_loads st92 sz92 rfl (cellsB hB5) rfl) ?_
            refine WL_mg rfl rfl hg29 rfl (ev_call rfl (needs_spec _ _ _)) ?_
            rintro _ w34 ⟨rfl, hE34⟩
            have hz34 := hE34.size
            replace hE := hE.trans hE34
            replace hRL0 := hRL0.trans hE34
            replace hx := hx.ext hE34
            replace hB5 := hB5.ext hE34
            refine WL_qg rfl rfl hg29 rfl (ev_lss rfl rfl) ?_
            refine WL_q rfl (ev_pick_f rfl hg29 rfl) ?_
            refine WL_nil ?_
            refine thenE_n ?_
            refine W_cond rfl (fun hg35 => ?_) (fun hg35 => ?_)
            · have hp35 := of_decide_eq_true hg35
              refine W_seq ?_
              refine W_region ?_
              refine WL_q rfl (ev_assign rfl) ?_
              refine WL_nil ?_
              refine thenE_n ?_
              refine W_ret ?_
              refine thenE_r ?_
              refine blockE_r ?_
              refine thenE_r ?_
              refine thenE_r ?_
              refine blockE_r ?_
              refine thenE_r ?_
              refine ret1 rfl rfl ?_
              first | exact ⟨vb (vOk_false_len hg9).symm, hE⟩ | exact ⟨vb (vOk_end hg9 hJ hp14).symm, hE⟩ | exact ⟨vb (vOk_none (i := i) (by omega) hJ (by first | exact vBad1 hg22 | exact vBad5 hp19 hg28 | exact vBad6 hp19 hg28 | exact vBad4 hp35)).symm, hE⟩
            · have hp35 := of_decide_eq_false hg35
              refine W_skip ?_
              refine thenE_n ?_
              refine W_region ?_
              refine WL_q rfl (ev_move rfl) ?_
              refine WL_q rfl (ev_loads st92 sz92 rfl (cellsB hB5) rfl) ?_
              refine WL_m rfl (ev_call rfl (needs_spec _ _ _)) ?_
              rintro _ w39 ⟨rfl, hE39⟩
              have hz39 := hE39.size
              replace hE := hE.trans hE39
              replace hRL0 := hRL0.trans hE39
              replace hx := hx.ext hE39
              replace hB5 := hB5.ext hE39
              refine WL_q rfl (ev_sub rfl rfl (by omega)) ?_
              refine WL_q rfl (ev_add rfl rfl (by omega)) ?_
              refine WL_q rfl (ev_assign rfl) ?_
              refine WL_nil ?_
              refine blockE_n ?_
              refine thenE_n ?_
              refine W_region ?_
              refine WL_q rfl (ev_add rfl rfl (by omega)) ?_
              refine WL_q rfl (ev_move rfl) ?_
              refine WL_nil ?_
              refine thenE_n ?_
              exact ⟨(i + 1, h + (1 - needs xs[i].1)), (Subs.c rfl (Subs.c rfl Subs.n)), (Subs.c (lkI rfl (by omega)) (Subs.c (lkI rfl (by omega)) Subs.n)), ⟨hRL0, ⟨by omega, by rw [vRun_take_succ (by omega) hJ]; exact vStep_some hg22 (by first | rw [if_pos hp19]; exact hg28 | rw [if_neg hp19]; exact hg28) (by omega)⟩⟩, by first | omega | (dsimp only; omega)⟩
      · have hp19 := of_decide_eq_false hg19
        refine W_skip ?_
        refine thenE_n ?_
        refine W_seq ?_
        refine W_seq ?_
        refine W_region ?_
        refine WL_q rfl (ev_fieldAddr fo92_0 rfl) ?_
        refine WL_q rfl (ev_load one3 rfl (hB5.cell rfl)) ?_
        refine WL_m rfl (ev_call rfl (within_spec _ _ _ _)) ?_
        rintro _ _ ⟨rfl, rfl⟩
        refine WL_q rfl (ev_not rfl) ?_
        refine WL_q rfl (ev_move rfl) ?_
        refine WL_splitv (t := 24) rfl (fun hg23 => ?_) (fun hg23 => ?_)
        · have hg22 := not_true hg23
          have hp22 := inR_false.1 hg22
          refine WL_no rfl rfl hg23 rfl ?_
          refine WL_no rfl rfl hg23 rfl ?_
          refine WL_no rfl rfl hg23 rfl ?_
          refine WL_no rfl rfl hg23 rfl ?_
          refine WL_no rfl rfl hg23 rfl ?_
          refine WL_q rfl (ev_pick_t rfl hg23 rfl) ?_
          refine WL_q rfl (ev_move rfl) ?_
          refine WL_no rfl rfl rfl rfl ?_
          refine WL_no rfl rfl rfl rfl ?_
          refine WL_no rfl rfl rfl rfl ?_
          refine WL_no rfl rfl rfl rfl ?_
          refine WL_q rfl (ev_pick_t rfl rfl rfl) ?_
          refine WL_nil ?_
          refine thenE_n ?_
          refine W_cond_t rfl ?_
          refine W_seq ?_
          refine W_region ?_
          refine WL_q rfl (ev_assign rfl) ?_
          refine WL_nil ?_
          refine thenE_n ?_
          refine W_ret ?_
          refine thenE_r ?_
          refine blockE_r ?_
          refine thenE_r ?_
          refine thenE_r ?_
          refine blockE_r ?_
          refine thenE_r ?_
          refine ret1 rfl rfl ?_
          first | exact ⟨vb (vOk_false_len hg9).symm, hE⟩ | exact ⟨vb (vOk_end hg9 hJ hp14).symm, hE⟩ | exact ⟨vb (vOk_none (i := i) (by omega) hJ (by first | exact vBad1 hg22 | exact vBad5 hp19 hg28 | exact vBad6 hp19 hg28 | exact vBad4 hp35)).symm, hE⟩
        · have hg22 := not_false hg23
          have hp22 := inR_true.1 hg22
          refine WL_qg rfl rfl hg23 rfl (ev_fieldAddr fo92_1 rfl) ?_
          refine WL_qg rfl rfl hg23 rfl (ev_load one3 rfl (hB5.cell rfl)) ?_
          refine WL_qg rfl rfl hg23 rfl (ev_move rfl) ?_
          refine WL_mg rfl rfl hg23 rfl (ev_call rfl (within_spec _ _ _ _)) ?_
          rintro _ _ ⟨rfl, rfl⟩
          refine WL_qg rfl rfl hg23 rfl (ev_not rfl) ?_
          refine WL_q rfl (ev_pick_f rfl hg23 rfl) ?_
          refine WL_q rfl (ev_move rfl) ?_
          refine WL_splitv (t := 31) rfl (fun hg29 => ?_) (fun hg29 => ?_)
          · have hg28 := not_true hg29
            have hp28 := inR_false.1 hg28
            refine WL_no rfl rfl hg29 rfl ?_
            refine WL_no rfl rfl hg29 rfl ?_
            refine WL_no rfl rfl hg29 rfl ?_
            refine WL_no rfl rfl hg29 rfl ?_
            refine WL_q rfl (ev_pick_t rfl hg29 rfl) ?_
            refine WL_nil ?_
            refine thenE_n ?_
            refine W_cond_t rfl ?_
            refine W_seq ?_
            refine W_region ?_
            refine WL_q rfl (ev_assign rfl) ?_
            refine WL_nil ?_
            refine thenE_n ?_
            refine W_ret ?_
            refine thenE_r ?_
            refine blockE_r ?_
            refine thenE_r ?_
            refine thenE_r ?_
            refine blockE_r ?_
            refine thenE_r ?_
            refine ret1 rfl rfl ?_
            first | exact ⟨vb (vOk_false_len hg9).symm, hE⟩ | exact ⟨vb (vOk_end hg9 hJ hp14).symm, hE⟩ | exact ⟨vb (vOk_none (i := i) (by omega) hJ (by first | exact vBad1 hg22 | exact vBad5 hp19 hg28 | exact vBad6 hp19 hg28 | exact vBad4 hp35)).symm, hE⟩
          · have hg28 := not_false hg29
            have hp28 := inR_true.1 hg28
            refine WL_qg rfl rfl hg29 rfl (ev_move rfl) ?_
            refine WL_qg rfl rfl hg29 rfl (ev_loads st92 sz92 rfl (cellsB hB5) rfl) ?_
            refine WL_mg rfl rfl hg29 rfl (ev_call rfl (needs_spec _ _ _)) ?_
            rintro _ w34 ⟨rfl, hE34⟩
            have hz34 := hE34.size
            replace hE := hE.trans hE34
            replace hRL0 := hRL0.trans hE34
            replace hx := hx.ext hE34
            replace hB5 := hB5.ext hE34
            refine WL_qg rfl rfl hg29 rfl (ev_lss rfl rfl) ?_
            refine WL_q rfl (ev_pick_f rfl hg29 rfl) ?_
            refine WL_nil ?_
            refine thenE_n ?_
            refine W_cond rfl (fun hg35 => ?_) (fun hg35 => ?_)
            · have hp35 := of_decide_eq_true hg35
              refine W_seq ?_
              refine W_region ?_
              refine WL_q rfl (ev_assign rfl) ?_
              refine WL_nil ?_
              refine thenE_n ?_
              refine W_ret ?_
              refine thenE_r ?_
              refine blockE_r ?_
              refine thenE_r ?_
              refine thenE_r ?_
              refine blockE_r ?_
              refine thenE_r ?_
              refine ret1 rfl rfl ?_
              first | exact ⟨vb (vOk_false_len hg9).symm, hE⟩ | exact ⟨vb (vOk_end hg9 hJ hp14).symm, hE⟩ | exact ⟨vb (vOk_none (i := i) (by omega) hJ (by first | exact vBad1 hg22 | exact vBad5 hp19 hg28 | exact vBad6 hp19 hg28 | exact vBad4 hp35)).symm, hE⟩
            · have hp35 := of_decide_eq_false hg35
              refine W_skip ?_
              refine thenE_n ?_
              refine W_region ?_
              refine WL_q rfl (ev_move rfl) ?_
              refine WL_q rfl (ev_loads st92 sz92 rfl (cellsB hB5) rfl) ?_
              refine WL_m rfl (ev_call rfl (needs_spec _ _ _)) ?_
              rintro _ w39 ⟨rfl, hE39⟩
              have hz39 := hE39.size
              replace hE := hE.trans hE39
              replace hRL0 := hRL0.trans hE39
              replace hx := hx.ext hE39
              replace hB5 := hB5.ext hE39
              refine WL_q rfl (ev_sub rfl rfl (by omega)) ?_
              refine WL_q rfl (ev_add rfl rfl (by omega)) ?_
              refine WL_q rfl (ev_assign rfl) ?_
              refine WL_nil ?_
              refine blockE_n ?_
              refine thenE_n ?_
              refine W_region ?_
              refine WL_q rfl (ev_add rfl rfl (by omega)) ?_
              refine WL_q rfl (ev_move rfl) ?_
              refine WL_nil ?_
              refine thenE_n ?_
              exact ⟨(i + 1, h + (1 - needs xs[i].1)), (Subs.c rfl (Subs.c rfl Subs.n)), (Subs.c (lkI rfl (by omega)) (Subs.c (lkI rfl (by omega)) Subs.n)), ⟨hRL0, ⟨by omega, by rw [vRun_take_succ (by omega) hJ]; exact vStep_some hg22 (by first | rw [if_pos hp19]; exact hg28 | rw [if_neg hp19]; exact hg28) (by omega)⟩⟩, by first | omega | (dsimp only; omega)⟩
    · have hp14 := of_decide_eq_false hg14
      refine W_exit ?_
      refine thenE_x ?_
      refine thenE_x ?_
      refine blockE_hit ?_
      refine thenE_n ?_
      refine W_seq ?_
      refine W_region ?_
      refine WL_q rfl (ev_move rfl) ?_
      refine WL_q rfl (ev_eql rfl rfl) ?_
      refine WL_q rfl (ev_assign rfl) ?_
      refine WL_nil ?_
      refine thenE_n ?_
      refine W_ret ?_
      refine ret1 rfl rfl ?_
      first | exact ⟨vb (vOk_false_len hg9).symm, hE⟩ | exact ⟨vb (vOk_end hg9 hJ hp14).symm, hE⟩ | exact ⟨vb (vOk_none (i := i) (by omega) hJ (by first | exact vBad1 hg22 | exact vBad5 hp19 hg28 | exact vBad6 hp19 hg28 | exact vBad4 hp35)).symm, hE⟩

end Go.Proofs.Ytjnkkadbfigmpaa
