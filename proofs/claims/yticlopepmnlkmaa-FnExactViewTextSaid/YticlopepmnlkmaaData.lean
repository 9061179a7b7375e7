/- Contracts of the laws' own functions on data: sizes, copies and comparisons of lists, lists of lists, clauses, machines and networks. -/
import Derived.Test.YticlopepmnlkmaaBasic
import Derived.Test.YticlopepmnlkmaaMore
namespace Go.Proofs.Yticlopepmnlkmaa
open Go Go.RowKit

def totL {α : Type} (xss : List (List α)) : Nat := xss.length + (xss.map List.length).sum
def totC (cs : List Cl) : Nat := cs.length + (cs.map fun c => c.2.1.length).sum
theorem sum_take_succ {α : Type} (f : α → Nat) (xs : List α) {i : Nat} (h : i < xs.length) : ((xs.take (i + 1)).map f).sum = ((xs.take i).map f).sum + f xs[i] := by
  rw [List.take_succ_eq_append_getElem h]; simp only [List.map_append, List.sum_append, List.map_cons, List.map_nil, List.sum_cons, List.sum_nil, Nat.add_zero]
theorem sum_take_full {α : Type} (f : α → Nat) (xs : List α) {i : Nat} (h : xs.length ≤ i) : ((xs.take i).map f).sum = (xs.map f).sum := by rw [List.take_of_length_le h]
theorem le_sum_of_mem {α : Type} (f : α → Nat) {xs : List α} {x : α} (h : x ∈ xs) : f x ≤ (xs.map f).sum := by
  induction xs with
  | nil => simp at h
  | cons y r ih =>
    simp only [List.map_cons, List.sum_cons]
    rcases List.mem_cons.1 h with rfl | h
    · omega
    · have := ih h; omega
theorem totL_le {α : Type} {xss : List (List α)} {i : Nat} (h : i < xss.length) : xss[i].length ≤ totL xss := by
  have := le_sum_of_mem List.length (List.getElem_mem h); unfold totL; omega
theorem totC_le {cs : List Cl} {i : Nat} (h : i < cs.length) : cs[i].2.1.length ≤ totC cs := by
  have := le_sum_of_mem (fun c : Cl => c.2.1.length) (List.getElem_mem h); unfold totC; omega
theorem totL_len {α : Type} (xss : List (List α)) : xss.length ≤ totL xss := by unfold totL; omega
theorem totC_len (cs : List Cl) : cs.length ≤ totC cs := by unfold totC; omega

set_option maxRecDepth 100000 in
theorem szIntS_spec (a : Option Addr) (n c : Nat) (left : Int) (w : World) (hl : 0 ≤ left ∧ left ≤ 1048576) (hn : (n : Int) ≤ 9223372036854775807) :
    Fn Try.prog 10 #[.slice a n c, VI left] w (fun v w' => ∃ r, v = VI r ∧ w = w' ∧ (r < 0 ∨ (0 ≤ r ∧ r + n = left))) := by
  refine Fn_of Try.func10 rfl rfl (by kernel_rfl) rfl ?_
  refine W_seq ?_
  refine W_region ?_
  refine WL_q rfl (ev_assign rfl) ?_
  refine WL_nil ?_
  refine thenE_n ?_
  refine W_seq ?_
  refine W_region ?_
  refine WL_q rfl (ev_move rfl) ?_
  refine WL_q rfl (ev_move rfl) ?_
  refine WL_q rfl (ev_len Try.underlying23 rfl) ?_
  refine WL_q rfl (ev_sub rfl rfl (by omega)) ?_
  refine WL_q rfl (ev_assign rfl) ?_
  refine WL_nil ?_
  refine thenE_n ?_
  refine W_seq ?_
  refine W_seq ?_
  refine W_region ?_
  refine WL_q rfl (ev_move rfl) ?_
  refine WL_q rfl (ev_lss rfl rfl) ?_
  refine WL_nil ?_
  refine thenE_n ?_
  refine W_cond rfl (fun hg10 => ?_) (fun hg10 => ?_)
  · have hp10 := of_decide_eq_true hg10
    refine W_seq ?_
    refine W_region ?_
    refine WL_q rfl (ev_assign rfl) ?_
    refine WL_nil ?_
    refine thenE_n ?_
    refine W_ret ?_
    refine thenE_r ?_
    refine ret1 rfl rfl ?_
    exact ⟨_, rfl, rfl, .inl (by omega)⟩
  · have hp10 := of_decide_eq_false hg10
    refine W_skip ?_
    refine thenE_n ?_
    refine W_seq ?_
    refine W_region ?_
    refine WL_q rfl (ev_move rfl) ?_
    refine WL_q rfl (ev_assign rfl) ?_
    refine WL_nil ?_
    refine thenE_n ?_
    refine W_ret ?_
    refine ret1 rfl rfl ?_
    exact ⟨_, rfl, rfl, .inr (by omega)⟩

set_option maxRecDepth 100000 in
theorem szEndS_spec (a : Option Addr) (n c : Nat) (left : Int) (w : World) (hl : 0 ≤ left ∧ left ≤ 1048576) (hn : (n : Int) ≤ 9223372036854775807) :
    Fn Try.prog 26 #[.slice a n c, VI left] w (fun v w' => ∃ r, v = VI r ∧ w = w' ∧ (r < 0 ∨ (0 ≤ r ∧ r + n = left))) := by
  refine Fn_of Try.func26 rfl rfl (by kernel_rfl) rfl ?_
  refine W_seq ?_
  refine W_region ?_
  refine WL_q rfl (ev_assign rfl) ?_
  refine WL_nil ?_
  refine thenE_n ?_
  refine W_seq ?_
  refine W_region ?_
  refine WL_q rfl (ev_move rfl) ?_
  refine WL_q rfl (ev_move rfl) ?_
  refine WL_q rfl (ev_len Try.underlying57 rfl) ?_
  refine WL_q rfl (ev_sub rfl rfl (by omega)) ?_
  refine WL_q rfl (ev_assign rfl) ?_
  refine WL_nil ?_
  refine thenE_n ?_
  refine W_seq ?_
  refine W_seq ?_
  refine W_region ?_
  refine WL_q rfl (ev_move rfl) ?_
  refine WL_q rfl (ev_lss rfl rfl) ?_
  refine WL_nil ?_
  refine thenE_n ?_
  refine W_cond rfl (fun hg10 => ?_) (fun hg10 => ?_)
  · have hp10 := of_decide_eq_true hg10
    refine W_seq ?_
    refine W_region ?_
    refine WL_q rfl (ev_assign rfl) ?_
    refine WL_nil ?_
    refine thenE_n ?_
    refine W_ret ?_
    refine thenE_r ?_
    refine ret1 rfl rfl ?_
    exact ⟨_, rfl, rfl, .inl (by omega)⟩
  · have hp10 := of_decide_eq_false hg10
    refine W_skip ?_
    refine thenE_n ?_
    refine W_seq ?_
    refine W_region ?_
    refine WL_q rfl (ev_move rfl) ?_
    refine WL_q rfl (ev_assign rfl) ?_
    refine WL_nil ?_
    refine thenE_n ?_
    refine W_ret ?_
    refine ret1 rfl rfl ?_
    exact ⟨_, rfl, rfl, .inr (by omega)⟩

set_option maxRecDepth 100000 in
theorem toIntS_spec {lo hi : Nat} (a : Option Addr) (c : Nat) (xs : List Int) (w : World) (hx : Ints lo hi w a c xs) (hhi : hi ≤ w.heap.size) (hn : xs.length ≤ 1048576) :
    Fn Try.prog 15 #[.slice a xs.length c] w (fun v w' => ∃ a', v = .slice a' xs.length xs.length ∧ FInts w.heap.size w'.heap.size w' a' xs.length xs ∧ Ext w w') := by
  have hE := Ext.refl w
  refine Fn_of Try.func15 rfl rfl (by kernel_rfl) rfl ?_
  refine W_seq ?_
  refine W_region ?_
  refine WL_q rfl (ev_assign rfl) ?_
  refine WL_nil ?_
  refine thenE_n ?_
  refine W_seq ?_
  refine W_region ?_
  refine WL_q rfl (ev_move rfl) ?_
  refine WL_q rfl (ev_len Try.underlying23 rfl) ?_
  refine WL_m rfl (ev_makeN Try.underlying23 el3 rfl rfl rfl (by omega) (by omega)) ?_
  rintro _ w7 ⟨rfl, hN7⟩
  have hz7 := hN7.size
  replace hE := hE.trans hN7.ext
  replace hx := hx.ext hN7.ext
  have hB7 := hN7.blk
  replace hB7 := hB7.to (fillI_zero xs)
  refine WL_q rfl (ev_assign rfl) ?_
  refine WL_nil ?_
  refine thenE_n ?_
  refine W_seq ?_
  refine W_seq ?_
  refine W_region ?_
  refine WL_q rfl (ev_assign rfl) ?_
  refine WL_nil ?_
  refine thenE_n ?_
  refine W_block ?_
  refine W_loopC (G := Nat) [(0, _), (3, _)] ((Subs.c rfl (Subs.c rfl Subs.n))) (fun i => [(4, VI (i : Int))]) (fun i w' => KX (w.heap.size) w7 w' ∧ i ≤ xs.length ∧ Blk w' w.heap.size 3 (fillI xs i)) (fun i => xs.length - i) 0 ((Subs.c (lkI rfl (by omega)) Subs.n)) (⟨KX.refl _ _, ⟨by omega, hB7⟩⟩) ?_
  rintro i wL0 ⟨hRL0, hi, hB7⟩
  have hzL0 := hRL0.size
  replace hx := hx.kx hRL0 (by omega)
  replace hE := hE.kx hRL0 (by omega)
  refine W_seq ?_
  refine W_seq ?_
  refine W_region ?_
  refine WL_q rfl (ev_move rfl) ?_
  refine WL_q rfl (ev_move rfl) ?_
  refine WL_q rfl (ev_len Try.underlying23 rfl) ?_
  refine WL_q rfl (ev_lss rfl rfl) ?_
  refine WL_nil ?_
  refine thenE_n ?_
  refine W_cond rfl (fun hg11 => ?_) (fun hg11 => ?_)
  · have hp11 := of_decide_eq_true hg11
    refine W_skip ?_
    refine thenE_n ?_
    refine W_seq ?_
    refine W_block ?_
    refine W_region ?_
    refine WL_q rfl (ev_move rfl) ?_
    refine WL_q rfl (ev_move rfl) ?_
    refine WL_q rfl (ev_move rfl) ?_
    refine WL_q rfl (ev_move rfl) ?_
    refine WL_q rfl (ev_indexAddr Try.underlying23 sz3 rfl rfl (hx.isSome (by omega)) (by omega) (by omega)) ?_
    refine WL_q rfl (ev_load one3 rfl (hx.cell (i := i) (by omega))) ?_
    refine WL_q rfl (ev_indexAddr Try.underlying23 sz3 rfl rfl rfl (by omega) (by omega)) ?_
    refine WL_s (ev_store sz3 rfl rfl rfl hB7 (by rw [fillI_length (by omega)]; simp; omega)) ?_
    rintro _ w5_7 hS5_7
    have hz5_7 := hS5_7.size
    replace hE := hE.sto hS5_7 (by omega)
    replace hRL0 := hRL0.sto hS5_7 (by omega)
    replace hx := hx.sto hS5_7 (by omega)
    replace hB7 := hS5_7.blk
    replace hB7 := fillI_store (by omega) hB7
    refine WL_nil ?_
    refine blockE_n ?_
    refine thenE_n ?_
    refine W_region ?_
    refine WL_q rfl (ev_move rfl) ?_
    refine WL_q rfl (ev_add rfl rfl (by omega)) ?_
    refine WL_q rfl (ev_assign rfl) ?_
    refine WL_nil ?_
    refine thenE_n ?_
    exact ⟨i + 1, (Subs.c rfl (Subs.c rfl Subs.n)), (Subs.c (lkI rfl (by omega)) Subs.n), ⟨hRL0, ⟨by omega, hB7⟩⟩, by first | omega | (dsimp only; omega)⟩
  · have hp11 := of_decide_eq_false hg11
    refine W_exit ?_
    refine thenE_x ?_
    refine thenE_x ?_
    refine blockE_hit ?_
    refine thenE_n ?_
    refine W_seq ?_
    refine W_region ?_
    refine WL_q rfl (ev_move rfl) ?_
    refine WL_q rfl (ev_assign rfl) ?_
    refine WL_nil ?_
    refine thenE_n ?_
    refine W_ret ?_
    refine ret1 rfl rfl ?_
    exact ⟨_, rfl, FInts.of_blk (hB7.to (fillI_done (by omega))) (Nat.le_refl _) hB7.lt (Nat.le_refl _), hE⟩

set_option maxRecDepth 100000 in
theorem toEnd_spec (k x : Int) (w : World) :
    Fn Try.prog 42 #[.agg #[VI k, VI x]] w (fun v w' => v = .agg #[VI k, VI x] ∧ Ext w w') := by
  have hE := Ext.refl w
  refine Fn_of Try.func42 rfl rfl (by kernel_rfl) rfl ?_
  refine W_seq ?_
  refine W_region ?_
  refine WL_m rfl (ev_box rfl) ?_
  rintro _ w1 ⟨rfl, hN1⟩
  have hz1 := hN1.size
  replace hE := hE.trans hN1.ext
  have hB1 : Blk w1 _ _ [_, _] := hN1.blk
  refine WL_m rfl (ev_alloc zr61) ?_
  rintro _ w2 ⟨rfl, hN2⟩
  have hz2 := hN2.size
  replace hE := hE.trans hN2.ext
  replace hB1 := hB1.ext hN2.ext
  have hB2 : Blk w2 _ _ [_, _] := hN2.blk
  refine WL_nil ?_
  refine thenE_n ?_
  refine W_seq ?_
  refine W_region ?_
  refine WL_m rfl (ev_alloc zr61) ?_
  rintro _ w3 ⟨rfl, hN3⟩
  have hz3 := hN3.size
  replace hE := hE.trans hN3.ext
  replace hB1 := hB1.ext hN3.ext
  replace hB2 := hB2.ext hN3.ext
  have hB3 : Blk w3 _ _ [_, _] := hN3.blk
  refine WL_nil ?_
  refine thenE_n ?_
  refine W_seq ?_
  refine W_region ?_
  refine WL_q rfl (ev_fieldAddr fo76_0 rfl) ?_
  refine WL_q rfl (ev_load one3 rfl (hB1.cell rfl)) ?_
  refine WL_q rfl (ev_fieldAddr fo61_0 rfl) ?_
  refine WL_s (ev_store sz3 rfl rfl rfl hB3 (by simp)) ?_
  rintro _ w2_3 hS2_3
  have hz2_3 := hS2_3.size
  replace hE := hE.sto hS2_3 (by omega)
  replace hB1 := hB1.sto hS2_3 (by omega)
  replace hB2 := hB2.sto hS2_3 (by omega)
  replace hB3 : Blk w2_3 _ _ [_, _] := hS2_3.blk
  refine WL_nil ?_
  refine thenE_n ?_
  refine W_seq ?_
  refine W_region ?_
  refine WL_q rfl (ev_fieldAddr fo76_1 rfl) ?_
  refine WL_q rfl (ev_load one3 rfl (hB1.cell rfl)) ?_
  refine WL_q rfl (ev_fieldAddr fo61_1 rfl) ?_
  refine WL_s (ev_store sz3 rfl rfl rfl hB3 (by simp)) ?_
  rintro _ w3_3 hS3_3
  have hz3_3 := hS3_3.size
  replace hE := hE.sto hS3_3 (by omega)
  replace hB1 := hB1.sto hS3_3 (by omega)
  replace hB2 := hB2.sto hS3_3 (by omega)
  replace hB3 : Blk w3_3 _ _ [_, _] := hS3_3.blk
  refine WL_nil ?_
  refine thenE_n ?_
  refine W_seq ?_
  refine W_region ?_
  refine WL_q rfl (ev_loads st61 sz61 rfl (cellsB hB3) rfl) ?_
  refine WL_s (ev_stores sz61 rfl rfl rfl (by simp [Value.oneCell']) hB2 (by simp)) ?_
  rintro _ w4_1 hS4_1
  have hz4_1 := hS4_1.size
  replace hE := hE.sto hS4_1 (by omega)
  replace hB1 := hB1.sto hS4_1 (by omega)
  replace hB3 := hB3.sto hS4_1 (by omega)
  replace hB2 : Blk w4_1 _ _ [_, _] := hS4_1.blk
  refine WL_nil ?_
  refine thenE_n ?_
  refine W_ret ?_
  refine retc rfl rfl st61 sz61 (cellsB hB2) rfl ?_
  exact ⟨rfl, hE⟩

set_option maxRecDepth 100000 in
theorem eqEnd_spec (k x k2 x2 : Int) (w : World) :
    Fn Try.prog 48 #[.agg #[VI k, VI x], .agg #[VI k2, VI x2]] w (fun v w' => v = VB (decide ((k, x) = (k2, x2))) ∧ Ext w w') := by
  have hE := Ext.refl w
  refine Fn_of Try.func48 rfl rfl (by kernel_rfl) rfl ?_
  refine W_seq ?_
  refine W_region ?_
  refine WL_m rfl (ev_box rfl) ?_
  rintro _ w2 ⟨rfl, hN2⟩
  have hz2 := hN2.size
  replace hE := hE.trans hN2.ext
  have hB2 : Blk w2 _ _ [_, _] := hN2.blk
  refine WL_m rfl (ev_box rfl) ?_
  rintro _ w3 ⟨rfl, hN3⟩
  have hz3 := hN3.size
  replace hE := hE.trans hN3.ext
  replace hB2 := hB2.ext hN3.ext
  have hB3 : Blk w3 _ _ [_, _] := hN3.blk
  refine WL_q rfl (ev_assign rfl) ?_
  refine WL_nil ?_
  refine thenE_n ?_
  refine W_seq ?_
  refine W_seq ?_
  refine W_region ?_
  refine WL_q rfl (ev_fieldAddr fo61_0 rfl) ?_
  refine WL_q rfl (ev_load one3 rfl (hB2.cell rfl)) ?_
  refine WL_q rfl (ev_fieldAddr fo61_0 rfl) ?_
  refine WL_q rfl (ev_load one3 rfl (hB3.cell rfl)) ?_
  refine WL_q rfl (ev_neq rfl rfl) ?_
  refine WL_nil ?_
  refine thenE_n ?_
  refine W_cond rfl (fun hg9 => ?_) (fun hg9 => ?_)
  · have hp9 := of_decide_eq_true hg9
    refine W_seq ?_
    refine W_region ?_
    refine WL_q rfl (ev_assign rfl) ?_
    refine WL_nil ?_
    refine thenE_n ?_
    refine W_ret ?_
    refine thenE_r ?_
    refine ret1 rfl rfl ?_
    exact ⟨by simp_all, hE⟩
  · have hp9 := of_decide_eq_false hg9
    refine W_skip ?_
    refine thenE_n ?_
    refine W_seq ?_
    refine W_seq ?_
    refine W_region ?_
    refine WL_q rfl (ev_fieldAddr fo61_1 rfl) ?_
    refine WL_q rfl (ev_load one3 rfl (hB2.cell rfl)) ?_
    refine WL_q rfl (ev_fieldAddr fo61_1 rfl) ?_
    refine WL_q rfl (ev_load one3 rfl (hB3.cell rfl)) ?_
    refine WL_q rfl (ev_neq rfl rfl) ?_
    refine WL_nil ?_
    refine thenE_n ?_
    refine W_cond rfl (fun hg14 => ?_) (fun hg14 => ?_)
    · have hp14 := of_decide_eq_true hg14
      refine W_seq ?_
      refine W_region ?_
      refine WL_q rfl (ev_assign rfl) ?_
      refine WL_nil ?_
      refine thenE_n ?_
      refine W_ret ?_
      refine thenE_r ?_
      refine ret1 rfl rfl ?_
      exact ⟨by simp_all, hE⟩
    · have hp14 := of_decide_eq_false hg14
      refine W_skip ?_
      refine thenE_n ?_
      refine W_seq ?_
      refine W_region ?_
      refine WL_q rfl (ev_assign rfl) ?_
      refine WL_nil ?_
      refine thenE_n ?_
      refine W_ret ?_
      refine ret1 rfl rfl ?_
      exact ⟨by simp_all, hE⟩

set_option maxRecDepth 100000 in
theorem toEndS_spec {lo hi : Nat} (a : Option Addr) (c : Nat) (xs : List (Int × Int)) (w : World) (hx : Pairs lo hi w a c xs) (hhi : hi ≤ w.heap.size) (hn : xs.length ≤ 1048576) :
    Fn Try.prog 31 #[.slice a xs.length c] w (fun v w' => ∃ a', v = .slice a' xs.length xs.length ∧ FPairs w.heap.size w'.heap.size w' a' xs.length xs ∧ Ext w w') := by
  have hE := Ext.refl w
  refine Fn_of Try.func31 rfl rfl (by kernel_rfl) rfl ?_
  refine W_seq ?_
  refine W_region ?_
  refine WL_q rfl (ev_assign rfl) ?_
  refine WL_nil ?_
  refine thenE_n ?_
  refine W_seq ?_
  refine W_region ?_
  refine WL_q rfl (ev_move rfl) ?_
  refine WL_q rfl (ev_len Try.underlying57 rfl) ?_
  refine WL_m rfl (ev_make2N Try.underlying46 el61 rfl rfl (by omega) (by omega)) ?_
  rintro _ w7 ⟨rfl, hN7⟩
  have hz7 := hN7.size
  replace hE := hE.trans hN7.ext
  replace hx := hx.ext hN7.ext
  have hB7 := hN7.blk
  replace hB7 := hB7.to (fillG_zero (f := pairF) (xs := xs)).symm
  refine WL_q rfl (ev_assign rfl) ?_
  refine WL_nil ?_
  refine thenE_n ?_
  refine W_seq ?_
  refine W_seq ?_
  refine W_region ?_
  refine WL_q rfl (ev_assign rfl) ?_
  refine WL_nil ?_
  refine thenE_n ?_
  refine W_block ?_
  refine W_loopC (G := Nat) [(0, _), (3, _)] ((Subs.c rfl (Subs.c rfl Subs.n))) (fun i => [(4, VI (i : Int))]) (fun i w' => KX (w.heap.size) w7 w' ∧ i ≤ xs.length ∧ Blk w' w.heap.size 61 (fillP xs i)) (fun i => xs.length - i) 0 ((Subs.c (lkI rfl (by omega)) Subs.n)) (⟨KX.refl _ _, ⟨by omega, hB7⟩⟩) ?_
  rintro i wL0 ⟨hRL0, hi, hB7⟩
  have hzL0 := hRL0.size
  replace hx := hx.kx hRL0 (by omega)
  replace hE := hE.kx hRL0 (by omega)
  refine W_seq ?_
  refine W_seq ?_
  refine W_region ?_
  refine WL_q rfl (ev_move rfl) ?_
  refine WL_q rfl (ev_move rfl) ?_
  refine WL_q rfl (ev_len Try.underlying57 rfl) ?_
  refine WL_q rfl (ev_lss rfl rfl) ?_
  refine WL_nil ?_
  refine thenE_n ?_
  refine W_cond rfl (fun hg11 => ?_) (fun hg11 => ?_)
  · have hp11 := of_decide_eq_true hg11
    refine W_skip ?_
    refine thenE_n ?_
    refine W_seq ?_
    refine W_block ?_
    refine W_region ?_
    refine WL_q rfl (ev_move rfl) ?_
    refine WL_q rfl (ev_move rfl) ?_
    refine WL_q rfl (ev_move rfl) ?_
    refine WL_q rfl (ev_move rfl) ?_
    refine WL_q rfl (ev_indexAddr Try.underlying57 sz76 rfl rfl (hx.isSome (by omega)) (by omega) (by omega)) ?_
    refine WL_q rfl (ev_loads st76 sz76 rfl (hx.cells (i := i) (by omega)) rfl) ?_
    refine WL_m rfl (ev_call rfl (toEnd_spec _ _ _)) ?_
    rintro _ w20 ⟨rfl, hE20⟩
    have hz20 := hE20.size
    replace hE := hE.trans hE20
    replace hRL0 := hRL0.trans hE20
    replace hx := hx.ext hE20
    replace hB7 := hB7.ext hE20
    refine WL_q rfl (ev_indexAddr Try.underlying46 sz61 rfl rfl rfl (by omega) (by omega)) ?_
    refine WL_s (ev_stores sz61 rfl rfl rfl (by simp [Value.oneCell']) hB7 (by rw [fillP_length (by omega)]; simp; omega)) ?_
    rintro _ w5_8 hS5_8
    have hz5_8 := hS5_8.size
    replace hE := hE.sto hS5_8 (by omega)
    replace hRL0 := hRL0.sto hS5_8 (by omega)
    replace hx := hx.sto hS5_8 (by omega)
    replace hB7 := hS5_8.blk
    replace hB7 := fillP_store (by omega) hB7
    refine WL_nil ?_
    refine blockE_n ?_
    refine thenE_n ?_
    refine W_region ?_
    refine WL_q rfl (ev_move rfl) ?_
    refine WL_q rfl (ev_add rfl rfl (by omega)) ?_
    refine WL_q rfl (ev_assign rfl) ?_
    refine WL_nil ?_
    refine thenE_n ?_
    exact ⟨i + 1, (Subs.c rfl (Subs.c rfl Subs.n)), (Subs.c (lkI rfl (by omega)) Subs.n), ⟨hRL0, ⟨by omega, hB7⟩⟩, by first | omega | (dsimp only; omega)⟩
  · have hp11 := of_decide_eq_false hg11
    refine W_exit ?_
    refine thenE_x ?_
    refine thenE_x ?_
    refine blockE_hit ?_
    refine thenE_n ?_
    refine W_seq ?_
    refine W_region ?_
    refine WL_q rfl (ev_move rfl) ?_
    refine WL_q rfl (ev_assign rfl) ?_
    refine WL_nil ?_
    refine thenE_n ?_
    refine W_ret ?_
    refine ret1 rfl rfl ?_
    exact ⟨_, rfl, FPairs.of_blk (hB7.to (fillP_done (by omega))) (Nat.le_refl _) hB7.lt (Nat.le_refl _), hE⟩

theorem list_eq_of {α : Type} {l m : List α} (hl : l.length = m.length) (h : ∀ i (h1 : i < l.length) (h2 : i < m.length), l[i] = m[i]) : l = m := List.ext_getElem hl h

set_option maxRecDepth 100000 in
theorem eqIntS_spec {lo hi lo2 hi2 : Nat} (a a2 : Option Addr) (c c2 : Nat) (xs ys : List Int) (w : World) (hx : Ints lo hi w a c xs) (hy : Ints lo2 hi2 w a2 c2 ys) (hn : xs.length ≤ 1048576) :
    Fn Try.prog 25 #[.slice a xs.length c, .slice a2 ys.length c2] w (fun v w' => v = VB (decide (xs = ys)) ∧ Ext w w') := by
  have hE := Ext.refl w
  refine Fn_of Try.func25 rfl rfl (by kernel_rfl) rfl ?_
  refine W_seq ?_
  refine W_region ?_
  refine WL_q rfl (ev_assign rfl) ?_
  refine WL_nil ?_
  refine thenE_n ?_
  refine W_seq ?_
  refine W_seq ?_
  refine W_region ?_
  refine WL_q rfl (ev_move rfl) ?_
  refine WL_q rfl (ev_len Try.underlying23 rfl) ?_
  refine WL_q rfl (ev_move rfl) ?_
  refine WL_q rfl (ev_len Try.underlying23 rfl) ?_
  refine WL_q rfl (ev_neq rfl rfl) ?_
  refine WL_nil ?_
  refine thenE_n ?_
  refine W_cond rfl (fun hg10 => ?_) (fun hg10 => ?_)
  · have hp10 := of_decide_eq_true hg10
    refine W_seq ?_
    refine W_region ?_
    refine WL_q rfl (ev_assign rfl) ?_
    refine WL_nil ?_
    refine thenE_n ?_
    refine W_ret ?_
    refine thenE_r ?_
    refine ret1 rfl rfl ?_
    exact ⟨vb (bf fun h => hp10 (by rw [h])), hE⟩
  · have hp10 := of_decide_eq_false hg10
    refine W_skip ?_
    refine thenE_n ?_
    refine W_seq ?_
    refine W_seq ?_
    refine W_region ?_
    refine WL_q rfl (ev_assign rfl) ?_
    refine WL_nil ?_
    refine thenE_n ?_
    refine W_block ?_
    refine W_loopC (G := Nat) [(0, _), (1, _)] ((Subs.c rfl (Subs.c rfl Subs.n))) (fun i => [(5, VI (i : Int))]) (fun i w' => Ext w w' ∧ i ≤ xs.length ∧ ∀ j (h1 : j < i) (h2 : j < xs.length) (h3 : j < ys.length), xs[j] = ys[j]) (fun i => xs.length - i) 0 ((Subs.c (lkI rfl (by omega)) Subs.n)) (⟨Ext.refl _, ⟨by omega, fun j h => by omega⟩⟩) ?_
    rintro i wL0 ⟨hRL0, hi, hJ⟩
    have hzL0 := hRL0.size
    replace hE := hE.trans hRL0
    replace hx := hx.ext hRL0
    replace hy := hy.ext hRL0
    refine W_seq ?_
    refine W_seq ?_
    refine W_region ?_
    refine WL_q rfl (ev_move rfl) ?_
    refine WL_q rfl (ev_move rfl) ?_
    refine WL_q rfl (ev_len Try.underlying23 rfl) ?_
    refine WL_q rfl (ev_lss rfl rfl) ?_
    refine WL_nil ?_
    refine thenE_n ?_
    refine W_cond rfl (fun hg14 => ?_) (fun hg14 => ?_)
    · have hp14 := of_decide_eq_true hg14
      refine W_skip ?_
      refine thenE_n ?_
      refine W_seq ?_
      refine W_block ?_
      refine W_seq ?_
      refine W_drawE [(0, true), (1, true), (2, true), (3, true), (4, true), (5, true), (6, true), (7, true), (8, true)] mixed (by kernel_rfl) rfl (by kernel_rfl) ?_
      intro wd6 hEd6 hzd6
      replace hE := hE.trans hEd6
      replace hRL0 := hRL0.trans hEd6
      replace hx := hx.ext hEd6
      replace hy := hy.ext hEd6
      have hDd6 := Ext.refl wd6
      refine PW_q rfl rfl (fun wq hq => ev_move rfl) ?_
      refine PW_q rfl rfl (fun wq hq => ev_move rfl) ?_
      refine PW_q rfl rfl (fun wq hq => ev_indexAddr Try.underlying23 sz3 rfl rfl (hx.isSome (by omega)) (by omega) (by omega)) ?_
      have hc20 := hx.cell (i := i) (by omega)
      refine PW_q rfl rfl (fun wq hq => ev_load one3 rfl (hq.cell (hc20))) ?_
      refine PW_q rfl rfl (fun wq hq => ev_move rfl) ?_
      refine PW_q rfl rfl (fun wq hq => ev_move rfl) ?_
      refine PW_q rfl rfl (fun wq hq => ev_indexAddr Try.underlying23 sz3 rfl rfl (hy.isSome (by omega)) (by omega) (by omega)) ?_
      have hc24 := hy.cell (i := i) (by omega)
      refine PW_q rfl rfl (fun wq hq => ev_load one3 rfl (hq.cell (hc24))) ?_
      refine PW_q rfl rfl (fun wq hq => ev_neq rfl rfl) ?_
      refine PW_nil ?_
      refine thenE_n ?_
      refine W_cond rfl (fun hg25 => ?_) (fun hg25 => ?_)
      · have hp25 := of_decide_eq_true hg25
        refine W_seq ?_
        refine W_region ?_
        refine WL_q rfl (ev_assign rfl) ?_
        refine WL_nil ?_
        refine thenE_n ?_
        refine W_ret ?_
        refine blockE_r ?_
        refine thenE_r ?_
        refine thenE_r ?_
        refine blockE_r ?_
        refine thenE_r ?_
        refine ret1 rfl rfl ?_
        exact ⟨vb (bf fun h => by subst h; exact hp25 rfl), hE⟩
      · have hp25 := of_decide_eq_false hg25
        refine W_skip ?_
        refine blockE_n ?_
        refine thenE_n ?_
        refine W_region ?_
        refine WL_q rfl (ev_move rfl) ?_
        refine WL_q rfl (ev_add rfl rfl (by omega)) ?_
        refine WL_q rfl (ev_assign rfl) ?_
        refine WL_nil ?_
        refine thenE_n ?_
        exact ⟨i + 1, (Subs.c rfl (Subs.c rfl Subs.n)), (Subs.c (lkI rfl (by omega)) Subs.n), ⟨hRL0, ⟨by omega, fun j h1 h2 h3 => by
    by_cases hj : j = i
    · subst hj; omega
    · exact hJ j (by omega) h2 h3⟩⟩, by first | omega | (dsimp only; omega)⟩
    · have hp14 := of_decide_eq_false hg14
      refine W_exit ?_
      refine thenE_x ?_
      refine thenE_x ?_
      refine blockE_hit ?_
      refine thenE_n ?_
      refine W_seq ?_
      refine W_region ?_
      refine WL_q rfl (ev_assign rfl) ?_
      refine WL_nil ?_
      refine thenE_n ?_
      refine W_ret ?_
      refine ret1 rfl rfl ?_
      exact ⟨vb (bt (list_eq_of (by omega) fun j h1 h2 => hJ j (by omega) h1 h2)), hE⟩

set_option maxRecDepth 100000 in
theorem eqEndS_spec {lo hi lo2 hi2 : Nat} (a a2 : Option Addr) (c c2 : Nat) (xs ys : List (Int × Int)) (w : World) (hx : Pairs lo hi w a c xs) (hy : Pairs lo2 hi2 w a2 c2 ys) (hn : xs.length ≤ 1048576) :
    Fn Try.prog 39 #[.slice a xs.length c, .slice a2 ys.length c2] w (fun v w' => v = VB (decide (xs = ys)) ∧ Ext w w') := by
  have hE := Ext.refl w
  refine Fn_of Try.func39 rfl rfl (by kernel_rfl) rfl ?_
  refine W_seq ?_
  refine W_region ?_
  refine WL_q rfl (ev_assign rfl) ?_
  refine WL_nil ?_
  refine thenE_n ?_
  refine W_seq ?_
  refine W_seq ?_
  refine W_region ?_
  refine WL_q rfl (ev_move rfl) ?_
  refine WL_q rfl (ev_len Try.underlying46 rfl) ?_
  refine WL_q rfl (ev_move rfl) ?_
  refine WL_q rfl (ev_len Try.underlying46 rfl) ?_
  refine WL_q rfl (ev_neq rfl rfl) ?_
  refine WL_nil ?_
  refine thenE_n ?_
  refine W_cond rfl (fun hg10 => ?_) (fun hg10 => ?_)
  · have hp10 := of_decide_eq_true hg10
    refine W_seq ?_
    refine W_region ?_
    refine WL_q rfl (ev_assign rfl) ?_
    refine WL_nil ?_
    refine thenE_n ?_
    refine W_ret ?_
    refine thenE_r ?_
    refine ret1 rfl rfl ?_
    exact ⟨vb (bf fun h => hp10 (by rw [h])), hE⟩
  · have hp10 := of_decide_eq_false hg10
    refine W_skip ?_
    refine thenE_n ?_
    refine W_seq ?_
    refine W_seq ?_
    refine W_region ?_
    refine WL_q rfl (ev_assign rfl) ?_
    refine WL_nil ?_
    refine thenE_n ?_
    refine W_block ?_
    refine W_loopC (G := Nat) [(0, _), (1, _)] ((Subs.c rfl (Subs.c rfl Subs.n))) (fun i => [(5, VI (i : Int))]) (fun i w' => Ext w w' ∧ i ≤ xs.length ∧ ∀ j (h1 : j < i) (h2 : j < xs.length) (h3 : j < ys.length), xs[j] = ys[j]) (fun i => xs.length - i) 0 ((Subs.c (lkI rfl (by omega)) Subs.n)) (⟨Ext.refl _, ⟨by omega, fun j h => by omega⟩⟩) ?_
    rintro i wL0 ⟨hRL0, hi, hJ⟩
    have hzL0 := hRL0.size
    replace hE := hE.trans hRL0
    replace hx := hx.ext hRL0
    replace hy := hy.ext hRL0
    refine W_seq ?_
    refine W_seq ?_
    refine W_region ?_
    refine WL_q rfl (ev_move rfl) ?_
    refine WL_q rfl (ev_move rfl) ?_
    refine WL_q rfl (ev_len Try.underlying46 rfl) ?_
    refine WL_q rfl (ev_lss rfl rfl) ?_
    refine WL_nil ?_
    refine thenE_n ?_
    refine W_cond rfl (fun hg14 => ?_) (fun hg14 => ?_)
    · have hp14 := of_decide_eq_true hg14
      refine W_skip ?_
      refine thenE_n ?_
      refine W_seq ?_
      refine W_block ?_
      refine W_seq ?_
      refine W_drawE [(0, true), (1, true), (2, true), (3, true), (4, true), (5, true), (6, true), (7, true), (8, false), (9, true)] mixed (by kernel_rfl) rfl (by kernel_rfl) ?_
      intro wd6 hEd6 hzd6
      replace hE := hE.trans hEd6
      replace hRL0 := hRL0.trans hEd6
      replace hx := hx.ext hEd6
      replace hy := hy.ext hEd6
      have hDd6 := Ext.refl wd6
      refine PW_q rfl rfl (fun wq hq => ev_move rfl) ?_
      refine PW_q rfl rfl (fun wq hq => ev_move rfl) ?_
      refine PW_q rfl rfl (fun wq hq => ev_indexAddr Try.underlying46 sz61 rfl rfl (hx.isSome (by omega)) (by omega) (by omega)) ?_
      have hc20 := hx.cells (i := i) (by omega)
      refine PW_q rfl rfl (fun wq hq => ev_loads st61 sz61 rfl (hq.cells (hc20)) rfl) ?_
      refine PW_q rfl rfl (fun wq hq => ev_move rfl) ?_
      refine PW_q rfl rfl (fun wq hq => ev_move rfl) ?_
      refine PW_q rfl rfl (fun wq hq => ev_indexAddr Try.underlying46 sz61 rfl rfl (hy.isSome (by omega)) (by omega) (by omega)) ?_
      have hc24 := hy.cells (i := i) (by omega)
      refine PW_q rfl rfl (fun wq hq => ev_loads st61 sz61 rfl (hq.cells (hc24)) rfl) ?_
      refine PW_m rfl rfl (ev_call rfl (eqEnd_spec _ _ _ _ _)) ?_
      rintro _ w25 ⟨rfl, hE25⟩
      have hz25 := hE25.size
      replace hE := hE.trans hE25
      replace hRL0 := hRL0.trans hE25
      replace hDd6 := hDd6.trans hE25
      refine ⟨hDd6, ?_⟩
      refine PW_q rfl rfl (fun wq hq => ev_not rfl) ?_
      replace hx := hx.ext hDd6
      replace hy := hy.ext hDd6
      refine PW_nil ?_
      refine thenE_n ?_
      refine W_cond rfl (fun hg26 => ?_) (fun hg26 => ?_)
      · have hg25 := not_true hg26
        refine W_seq ?_
        refine W_region ?_
        refine WL_q rfl (ev_assign rfl) ?_
        refine WL_nil ?_
        refine thenE_n ?_
        refine W_ret ?_
        refine blockE_r ?_
        refine thenE_r ?_
        refine thenE_r ?_
        refine blockE_r ?_
        refine thenE_r ?_
        refine ret1 rfl rfl ?_
        exact ⟨vb (bf fun h => by subst h; simp at hg25), hE⟩
      · have hg25 := not_false hg26
        refine W_skip ?_
        refine blockE_n ?_
        refine thenE_n ?_
        refine W_region ?_
        refine WL_q rfl (ev_move rfl) ?_
        refine WL_q rfl (ev_add rfl rfl (by omega)) ?_
        refine WL_q rfl (ev_assign rfl) ?_
        refine WL_nil ?_
        refine thenE_n ?_
        exact ⟨i + 1, (Subs.c rfl (Subs.c rfl Subs.n)), (Subs.c (lkI rfl (by omega)) Subs.n), ⟨hRL0, ⟨by omega, fun j h1 h2 h3 => by
    by_cases hj : j = i
    · subst hj; exact Prod.ext_iff.2 (by simpa using hg25)
    · exact hJ j (by omega) h2 h3⟩⟩, by first | omega | (dsimp only; omega)⟩
    · have hp14 := of_decide_eq_false hg14
      refine W_exit ?_
      refine thenE_x ?_
      refine thenE_x ?_
      refine blockE_hit ?_
      refine thenE_n ?_
      refine W_seq ?_
      refine W_region ?_
      refine WL_q rfl (ev_assign rfl) ?_
      refine WL_nil ?_
      refine thenE_n ?_
      refine W_ret ?_
      refine ret1 rfl rfl ?_
      exact ⟨vb (bt (list_eq_of (by omega) fun j h1 h2 => hJ j (by omega) h1 h2)), hE⟩

set_option maxRecDepth 100000 in
theorem szEndSS_spec {lo hi : Nat} (a : Option Addr) (c : Nat) (xs : List (List (Int × Int))) (left : Int) (w : World) (hx : Pairss lo hi w a c xs) (hl : 0 ≤ left ∧ left ≤ 1048576) (hn : (xs.length : Int) ≤ 9223372036854775807) (hm : ∀ x ∈ xs, (x.length : Int) ≤ 9223372036854775807) :
    Fn Try.prog 9 #[.slice a xs.length c, VI left] w (fun v w' => ∃ r, v = VI r ∧ Ext w w' ∧ (r < 0 ∨ (0 ≤ r ∧ r + totL xs = left))) := by
  have hE := Ext.refl w
  refine Fn_of Try.func9 rfl rfl (by kernel_rfl) rfl ?_
  refine W_seq ?_
  refine W_region ?_
  refine WL_q rfl (ev_assign rfl) ?_
  refine WL_nil ?_
  refine thenE_n ?_
  refine W_seq ?_
  refine W_region ?_
  refine WL_q rfl (ev_move rfl) ?_
  refine WL_q rfl (ev_move rfl) ?_
  refine WL_q rfl (ev_len Try.underlying22 rfl) ?_
  refine WL_q rfl (ev_sub rfl rfl (by omega)) ?_
  refine WL_q rfl (ev_assign rfl) ?_
  refine WL_nil ?_
  refine thenE_n ?_
  refine W_seq ?_
  refine W_seq ?_
  refine W_region ?_
  refine WL_q rfl (ev_move rfl) ?_
  refine WL_q rfl (ev_lss rfl rfl) ?_
  refine WL_nil ?_
  refine thenE_n ?_
  refine W_cond rfl (fun hg11 => ?_) (fun hg11 => ?_)
  · have hp11 := of_decide_eq_true hg11
    refine W_seq ?_
    refine W_region ?_
    refine WL_q rfl (ev_assign rfl) ?_
    refine WL_nil ?_
    refine thenE_n ?_
    refine W_ret ?_
    refine thenE_r ?_
    refine ret1 rfl rfl ?_
    exact ⟨_, rfl, hE, .inl (by omega)⟩
  · have hp11 := of_decide_eq_false hg11
    refine W_skip ?_
    refine thenE_n ?_
    refine W_seq ?_
    refine W_seq ?_
    refine W_region ?_
    refine WL_q rfl (ev_assign rfl) ?_
    refine WL_nil ?_
    refine thenE_n ?_
    refine W_block ?_
    refine W_loopC (G := Nat × Int) [(0, _)] ((Subs.c rfl Subs.n)) (fun ⟨i, l⟩ => [(1, VI l), (5, VI (i : Int))]) (fun ⟨i, l⟩ w' => Ext w w' ∧ i ≤ xs.length ∧ 0 ≤ l ∧ l + xs.length + ((xs.take i).map List.length).sum = left) (fun g => xs.length - g.1) (0, left - xs.length) ((Subs.c (lkI rfl (by omega)) (Subs.c (lkI rfl (by omega)) Subs.n))) (⟨Ext.refl _, ⟨by simp, by show 0 ≤ _; omega, by simp⟩⟩) ?_
    rintro ⟨i, l⟩ wL0 ⟨hRL0, hi, hl0, hls⟩
    have hzL0 := hRL0.size
    replace hE := hE.trans hRL0
    replace hx := hx.ext hRL0
    refine W_seq ?_
    refine W_seq ?_
    refine W_region ?_
    refine WL_q rfl (ev_move rfl) ?_
    refine WL_q rfl (ev_move rfl) ?_
    refine WL_q rfl (ev_len Try.underlying22 rfl) ?_
    refine WL_q rfl (ev_lss rfl rfl) ?_
    refine WL_nil ?_
    refine thenE_n ?_
    refine W_cond rfl (fun hg15 => ?_) (fun hg15 => ?_)
    · have hp15 := of_decide_eq_true hg15
      refine W_skip ?_
      refine thenE_n ?_
      refine W_seq ?_
      refine W_block ?_
      refine W_seq ?_
      refine W_region ?_
      refine WL_q rfl (ev_move rfl) ?_
      refine WL_q rfl (ev_move rfl) ?_
      have hmi := hm _ (List.getElem_mem (show i < xs.length by omega))
      obtain ⟨a2, c2, hc2, hr2⟩ := hx.row (i := i) (by omega)
      refine WL_q rfl (ev_indexAddr Try.underlying22 sz57 rfl rfl (hx.isSome (by omega)) (by omega) (by omega)) ?_
      refine WL_q rfl (ev_load one57 rfl (hc2)) ?_
      refine WL_q rfl (ev_move rfl) ?_
      refine WL_m rfl (ev_call rfl (szEndS_spec _ _ _ _ _ (by omega) (by omega))) ?_
      rintro _ _ ⟨r23, rfl, rfl, hr23⟩
      refine WL_q rfl (ev_assign rfl) ?_
      refine WL_nil ?_
      refine thenE_n ?_
      refine W_seq ?_
      refine W_region ?_
      refine WL_q rfl (ev_move rfl) ?_
      refine WL_q rfl (ev_lss rfl rfl) ?_
      refine WL_nil ?_
      refine thenE_n ?_
      refine W_cond rfl (fun hg25 => ?_) (fun hg25 => ?_)
      · have hp25 := of_decide_eq_true hg25
        refine W_seq ?_
        refine W_region ?_
        refine WL_q rfl (ev_assign rfl) ?_
        refine WL_nil ?_
        refine thenE_n ?_
        refine W_ret ?_
        refine blockE_r ?_
        refine thenE_r ?_
        refine thenE_r ?_
        refine blockE_r ?_
        refine thenE_r ?_
        refine ret1 rfl rfl ?_
        exact ⟨_, rfl, hE, .inl (by omega)⟩
      · have hp25 := of_decide_eq_false hg25
        refine W_skip ?_
        refine blockE_n ?_
        refine thenE_n ?_
        refine W_region ?_
        refine WL_q rfl (ev_move rfl) ?_
        refine WL_q rfl (ev_add rfl rfl (by omega)) ?_
        refine WL_q rfl (ev_assign rfl) ?_
        refine WL_nil ?_
        refine thenE_n ?_
        exact ⟨(i + 1, r23), (Subs.c rfl Subs.n), (Subs.c (lkI rfl (by omega)) (Subs.c (lkI rfl (by omega)) Subs.n)), ⟨hRL0, ⟨by omega, by omega, by rw [sum_take_succ List.length xs (by omega)]; simp only [Int.natCast_add]; omega⟩⟩, by first | omega | (dsimp only; omega)⟩
    · have hp15 := of_decide_eq_false hg15
      refine W_exit ?_
      refine thenE_x ?_
      refine thenE_x ?_
      refine blockE_hit ?_
      refine thenE_n ?_
      refine W_seq ?_
      refine W_region ?_
      refine WL_q rfl (ev_move rfl) ?_
      refine WL_q rfl (ev_assign rfl) ?_
      refine WL_nil ?_
      refine thenE_n ?_
      refine W_ret ?_
      refine ret1 rfl rfl ?_
      exact ⟨_, rfl, hE, .inr ⟨hl0, by unfold totL; rw [sum_take_full List.length xs (by omega)] at hls; simp only [Int.natCast_add]; omega⟩⟩

set_option maxRecDepth 100000 in
theorem toEndSS_spec {lo hi : Nat} (a : Option Addr) (c : Nat) (xs : List (List (Int × Int))) (w : World) (hx : Pairss lo hi w a c xs) (hhi : hi ≤ w.heap.size) (hn : totL xs ≤ 1048576) :
    Fn Try.prog 14 #[.slice a xs.length c] w (fun v w' => ∃ a', v = .slice a' xs.length xs.length ∧ FPairss w.heap.size w'.heap.size w' a' xs.length xs ∧ Ext w w') := by
  have hnn := totL_len xs
  have hE := Ext.refl w
  refine Fn_of Try.func14 rfl rfl (by kernel_rfl) rfl ?_
  refine W_seq ?_
  refine W_region ?_
  refine WL_q rfl (ev_assign rfl) ?_
  refine WL_nil ?_
  refine thenE_n ?_
  refine W_seq ?_
  refine W_region ?_
  refine WL_q rfl (ev_move rfl) ?_
  refine WL_q rfl (ev_len Try.underlying22 rfl) ?_
  refine WL_m rfl (ev_makeN Try.underlying29 el46 rfl rfl rfl (by omega) (by omega)) ?_
  rintro _ w7 ⟨rfl, hN7⟩
  have hz7 := hN7.size
  replace hE := hE.trans hN7.ext
  replace hx := hx.ext hN7.ext
  have hB7 := hN7.blk
  replace hB7 := hB7.to (fillN1_zero (cells := rowCells))
  refine WL_q rfl (ev_assign rfl) ?_
  refine WL_nil ?_
  refine thenE_n ?_
  refine W_seq ?_
  refine W_seq ?_
  refine W_region ?_
  refine WL_q rfl (ev_assign rfl) ?_
  refine WL_nil ?_
  refine thenE_n ?_
  refine W_block ?_
  refine W_loopC (G := List (Option Addr × Nat)) [(0, _), (3, _)] ((Subs.c rfl (Subs.c rfl Subs.n))) (fun vs => [(4, VI (vs.length : Int))]) (fun vs w' => KX (w.heap.size) w7 w' ∧ vs.length ≤ xs.length ∧ Blk w' w.heap.size 46 (fillN rowCells [.slice none 0 0] vs xs) ∧ FIn FPairs (w.heap.size + 1) w'.heap.size w' vs (xs.map id)) (fun vs => xs.length - vs.length) [] ((Subs.c rfl Subs.n)) (⟨KX.refl _ _, ⟨by simp, hB7, FIn.nil⟩⟩) ?_
  rintro vs wL0 ⟨hRL0, hi, hB7, hV⟩
  have hzL0 := hRL0.size
  replace hx := hx.kx hRL0 (by omega)
  replace hE := hE.kx hRL0 (by omega)
  refine W_seq ?_
  refine W_seq ?_
  refine W_region ?_
  refine WL_q rfl (ev_move rfl) ?_
  refine WL_q rfl (ev_move rfl) ?_
  refine WL_q rfl (ev_len Try.underlying22 rfl) ?_
  refine WL_q rfl (ev_lss rfl rfl) ?_
  refine WL_nil ?_
  refine thenE_n ?_
  refine W_cond rfl (fun hg11 => ?_) (fun hg11 => ?_)
  · have hp11 := of_decide_eq_true hg11
    refine W_skip ?_
    refine thenE_n ?_
    refine W_seq ?_
    refine W_block ?_
    refine W_region ?_
    refine WL_q rfl (ev_move rfl) ?_
    refine WL_q rfl (ev_move rfl) ?_
    refine WL_q rfl (ev_move rfl) ?_
    refine WL_q rfl (ev_move rfl) ?_
    have hti := totL_le (show vs.length < xs.length by omega)
    obtain ⟨a2, c2, hc2, hr2⟩ := hx.row (i := vs.length) (by omega)
    refine WL_q rfl (ev_indexAddr Try.underlying22 sz57 rfl rfl (hx.isSome (by omega)) (by omega) (by omega)) ?_
    refine WL_q rfl (ev_load one57 rfl (hc2)) ?_
    refine WL_m rfl (ev_call rfl (toEndS_spec _ _ _ _ hr2 (by omega) (by omega))) ?_
    rintro _ w20 ⟨a20, rfl, hF20, hE20⟩
    have hz20 := hE20.size
    replace hE := hE.trans hE20
    replace hRL0 := hRL0.trans hE20
    replace hx := hx.ext hE20
    replace hB7 := hB7.ext hE20
    replace hV := hV.ext hE20
    replace hr2 := hr2.ext hE20
    refine WL_q rfl (ev_indexAddr Try.underlying29 sz46 rfl rfl rfl (by omega) (by omega)) ?_
    refine WL_s (ev_store sz46 rfl rfl rfl hB7 (by rw [fillN_length rowCells_len rfl (by omega)]; simp; omega)) ?_
    rintro _ w5_8 hS5_8
    have hz5_8 := hS5_8.size
    replace hE := hE.sto hS5_8 (by omega)
    replace hRL0 := hRL0.sto hS5_8 (by omega)
    replace hx := hx.sto hS5_8 (by omega)
    replace hV := hV.sto hS5_8 (by omega)
    replace hr2 := hr2.sto hS5_8 (by omega)
    replace hF20 := hF20.sto hS5_8 (by omega)
    replace hB7 := hS5_8.blk
    replace hB7 := fillN_store (v := (a20, xs[vs.length].length)) rowCells_len (by omega) rfl hB7
    refine WL_nil ?_
    refine blockE_n ?_
    refine thenE_n ?_
    refine W_region ?_
    refine WL_q rfl (ev_move rfl) ?_
    refine WL_q rfl (ev_add rfl rfl (by omega)) ?_
    refine WL_q rfl (ev_assign rfl) ?_
    refine WL_nil ?_
    refine thenE_n ?_
    exact ⟨vs ++ [(a20, xs[vs.length].length)], (Subs.c rfl (Subs.c rfl Subs.n)), (Subs.c (lkI rfl (by simp)) Subs.n), ⟨hRL0, ⟨by simp; omega, hB7, (hV.mono (Nat.le_refl _) (by omega)).snoc (hF20.mono (by omega) (by omega)) (fun h => by simp)⟩⟩, by simp; omega⟩
  · have hp11 := of_decide_eq_false hg11
    refine W_exit ?_
    refine thenE_x ?_
    refine thenE_x ?_
    refine blockE_hit ?_
    refine thenE_n ?_
    refine W_seq ?_
    refine W_region ?_
    refine WL_q rfl (ev_move rfl) ?_
    refine WL_q rfl (ev_assign rfl) ?_
    refine WL_nil ?_
    refine thenE_n ?_
    refine W_ret ?_
    refine ret1 rfl rfl ?_
    exact ⟨_, rfl, FNest.mk rowCells_len (by omega) (Nat.le_refl _) hB7.lt (Nat.le_refl _) hB7 hV, hE⟩

set_option maxRecDepth 100000 in
theorem eqEndSS_spec {lo hi lo2 hi2 : Nat} (a a2 : Option Addr) (c c2 : Nat) (xs ys : List (List (Int × Int))) (w : World) (hx : Pairss lo hi w a c xs) (hy : Pairss lo2 hi2 w a2 c2 ys) (hn : totL xs ≤ 1048576) :
    Fn Try.prog 24 #[.slice a xs.length c, .slice a2 ys.length c2] w (fun v w' => v = VB (decide (xs = ys)) ∧ Ext w w') := by
  have hnn := totL_len xs
  have hE := Ext.refl w
  refine Fn_of Try.func24 rfl rfl (by kernel_rfl) rfl ?_
  refine W_seq ?_
  refine W_region ?_
  refine WL_q rfl (ev_assign rfl) ?_
  refine WL_nil ?_
  refine thenE_n ?_
  refine W_seq ?_
  refine W_seq ?_
  refine W_region ?_
  refine WL_q rfl (ev_move rfl) ?_
  refine WL_q rfl (ev_len Try.underlying29 rfl) ?_
  refine WL_q rfl (ev_move rfl) ?_
  refine WL_q rfl (ev_len Try.underlying29 rfl) ?_
  refine WL_q rfl (ev_neq rfl rfl) ?_
  refine WL_nil ?_
  refine thenE_n ?_
  refine W_cond rfl (fun hg10 => ?_) (fun hg10 => ?_)
  · have hp10 := of_decide_eq_true hg10
    refine W_seq ?_
    refine W_region ?_
    refine WL_q rfl (ev_assign rfl) ?_
    refine WL_nil ?_
    refine thenE_n ?_
    refine W_ret ?_
    refine thenE_r ?_
    refine ret1 rfl rfl ?_
    exact ⟨vb (bf fun h => hp10 (by rw [h])), hE⟩
  · have hp10 := of_decide_eq_false hg10
    refine W_skip ?_
    refine thenE_n ?_
    refine W_seq ?_
    refine W_seq ?_
    refine W_region ?_
    refine WL_q rfl (ev_assign rfl) ?_
    refine WL_nil ?_
    refine thenE_n ?_
    refine W_block ?_
    refine W_loopC (G := Nat) [(0, _), (1, _)] ((Subs.c rfl (Subs.c rfl Subs.n))) (fun i => [(5, VI (i : Int))]) (fun i w' => Ext w w' ∧ i ≤ xs.length ∧ ∀ j (h1 : j < i) (h2 : j < xs.length) (h3 : j < ys.length), xs[j] = ys[j]) (fun i => xs.length - i) 0 ((Subs.c (lkI rfl (by omega)) Subs.n)) (⟨Ext.refl _, ⟨by omega, fun j h => by omega⟩⟩) ?_
    rintro i wL0 ⟨hRL0, hi, hJ⟩
    have hzL0 := hRL0.size
    replace hE := hE.trans hRL0
    replace hx := hx.ext hRL0
    replace hy := hy.ext hRL0
    refine W_seq ?_
    refine W_seq ?_
    refine W_region ?_
    refine WL_q rfl (ev_move rfl) ?_
    refine WL_q rfl (ev_move rfl) ?_
    refine WL_q rfl (ev_len Try.underlying29 rfl) ?_
    refine WL_q rfl (ev_lss rfl rfl) ?_
    refine WL_nil ?_
    refine thenE_n ?_
    refine W_cond rfl (fun hg14 => ?_) (fun hg14 => ?_)
    · have hp14 := of_decide_eq_true hg14
      refine W_skip ?_
      refine thenE_n ?_
      refine W_seq ?_
      refine W_block ?_
      refine W_seq ?_
      refine W_drawE [(0, true), (1, true), (2, true), (3, true), (4, true), (5, true), (6, true), (7, true), (8, false), (9, true)] mixed (by kernel_rfl) rfl (by kernel_rfl) ?_
      intro wd6 hEd6 hzd6
      replace hE := hE.trans hEd6
      replace hRL0 := hRL0.trans hEd6
      replace hx := hx.ext hEd6
      replace hy := hy.ext hEd6
      have hti := totL_le (show i < xs.length by omega)
      obtain ⟨a3, c3, hc3, hr3⟩ := hx.row (i := i) (by omega)
      obtain ⟨a4, c4, hc4, hr4⟩ := hy.row (i := i) (by omega)
      have hDd6 := Ext.refl wd6
      refine PW_q rfl rfl (fun wq hq => ev_move rfl) ?_
      refine PW_q rfl rfl (fun wq hq => ev_move rfl) ?_
      refine PW_q rfl rfl (fun wq hq => ev_indexAddr Try.underlying29 sz46 rfl rfl (hx.isSome (by omega)) (by omega) (by omega)) ?_
      refine PW_q rfl rfl (fun wq hq => ev_load one46 rfl (hq.cell (hc3))) ?_
      refine PW_q rfl rfl (fun wq hq => ev_move rfl) ?_
      refine PW_q rfl rfl (fun wq hq => ev_move rfl) ?_
      refine PW_q rfl rfl (fun wq hq => ev_indexAddr Try.underlying29 sz46 rfl rfl (hy.isSome (by omega)) (by omega) (by omega)) ?_
      refine PW_q rfl rfl (fun wq hq => ev_load one46 rfl (hq.cell (hc4))) ?_
      refine PW_m rfl rfl (ev_call rfl (eqEndS_spec _ _ _ _ _ _ _ hr3 hr4 (by omega))) ?_
      rintro _ w25 ⟨rfl, hE25⟩
      have hz25 := hE25.size
      replace hE := hE.trans hE25
      replace hRL0 := hRL0.trans hE25
      replace hDd6 := hDd6.trans hE25
      refine ⟨hDd6, ?_⟩
      refine PW_q rfl rfl (fun wq hq => ev_not rfl) ?_
      replace hx := hx.ext hDd6
      replace hy := hy.ext hDd6
      refine PW_nil ?_
      refine thenE_n ?_
      refine W_cond rfl (fun hg26 => ?_) (fun hg26 => ?_)
      · have hg25 := not_true hg26
        refine W_seq ?_
        refine W_region ?_
        refine WL_q rfl (ev_assign rfl) ?_
        refine WL_nil ?_
        refine thenE_n ?_
        refine W_ret ?_
        refine blockE_r ?_
        refine thenE_r ?_
        refine thenE_r ?_
        refine blockE_r ?_
        refine thenE_r ?_
        refine ret1 rfl rfl ?_
        exact ⟨vb (bf fun h => by subst h; simp at hg25), hE⟩
      · have hg25 := not_false hg26
        refine W_skip ?_
        refine blockE_n ?_
        refine thenE_n ?_
        refine W_region ?_
        refine WL_q rfl (ev_move rfl) ?_
        refine WL_q rfl (ev_add rfl rfl (by omega)) ?_
        refine WL_q rfl (ev_assign rfl) ?_
        refine WL_nil ?_
        refine thenE_n ?_
        exact ⟨i + 1, (Subs.c rfl (Subs.c rfl Subs.n)), (Subs.c (lkI rfl (by omega)) Subs.n), ⟨hRL0, ⟨by omega, fun j h1 h2 h3 => by
    by_cases hj : j = i
    · subst hj; exact of_decide_eq_true hg25
    · exact hJ j (by omega) h2 h3⟩⟩, by first | omega | (dsimp only; omega)⟩
    · have hp14 := of_decide_eq_false hg14
      refine W_exit ?_
      refine thenE_x ?_
      refine thenE_x ?_
      refine blockE_hit ?_
      refine thenE_n ?_
      refine W_seq ?_
      refine W_region ?_
      refine WL_q rfl (ev_assign rfl) ?_
      refine WL_nil ?_
      refine thenE_n ?_
      refine W_ret ?_
      refine ret1 rfl rfl ?_
      exact ⟨vb (bt (list_eq_of (by omega) fun j h1 h2 => hJ j (by omega) h1 h2)), hE⟩

/-! Machines and networks, as plain data and as values. -/
structure Mach where
  deg : Int
  states : Int
  msgs : Int
  start : List (List Int)
  send : List (List Int)
  clauses : List Cl
  output : List Int
structure Net where
  ends : List (List (Int × Int))
  ids : List Int
  inputs : List Int
/-- Where a machine's four slices lie. -/
structure MA where
  a1 : Option Addr
  c1 : Nat
  a2 : Option Addr
  c2 : Nat
  a3 : Option Addr
  c3 : Nat
  a4 : Option Addr
  c4 : Nat
structure NA where
  a1 : Option Addr
  c1 : Nat
  a2 : Option Addr
  c2 : Nat
  a3 : Option Addr
  c3 : Nat
def machV (h : MA) (m : Mach) : Value := .agg #[VI m.deg, VI m.states, VI m.msgs, .slice h.a1 m.start.length h.c1, .slice h.a2 m.send.length h.c2, .slice h.a3 m.clauses.length h.c3, .slice h.a4 m.output.length h.c4]
def netV (h : NA) (n : Net) : Value := .agg #[.slice h.a1 n.ends.length h.c1, .slice h.a2 n.ids.length h.c2, .slice h.a3 n.inputs.length h.c3]
structure IsMach (lo hi : Nat) (w : World) (h : MA) (m : Mach) : Prop where
  start : Intss lo hi w h.a1 h.c1 m.start
  send : Intss lo hi w h.a2 h.c2 m.send
  clauses : Clauses lo hi w h.a3 h.c3 m.clauses
  output : Ints lo hi w h.a4 h.c4 m.output
structure IsNet (lo hi : Nat) (w : World) (h : NA) (n : Net) : Prop where
  ends : Pairss lo hi w h.a1 h.c1 n.ends
  ids : Ints lo hi w h.a2 h.c2 n.ids
  inputs : Ints lo hi w h.a3 h.c3 n.inputs
/-- A fresh machine: its parts lie one behind the other. -/
def FMach (lo hi : Nat) (w : World) (h : MA) (m : Mach) : Prop := ∃ p q r, lo ≤ p ∧ p ≤ q ∧ q ≤ r ∧ r ≤ hi ∧ FIntss lo p w h.a1 h.c1 m.start ∧ FIntss p q w h.a2 h.c2 m.send ∧ FClauses q r w h.a3 h.c3 m.clauses ∧ FInts r hi w h.a4 h.c4 m.output
def FNet (lo hi : Nat) (w : World) (h : NA) (n : Net) : Prop := ∃ p q, lo ≤ p ∧ p ≤ q ∧ q ≤ hi ∧ FPairss lo p w h.a1 h.c1 n.ends ∧ FInts p q w h.a2 h.c2 n.ids ∧ FInts q hi w h.a3 h.c3 n.inputs
section
variable {lo hi : Nat} {w w' : World} {h : MA} {m : Mach}
theorem IsMach.ext (x : IsMach lo hi w h m) (k : Ext w w') : IsMach lo hi w' h m := ⟨x.start.ext k, x.send.ext k, x.clauses.ext k, x.output.ext k⟩
theorem IsMach.sto {b : Nat} {T : TypeId} {ds : List Value} (x : IsMach lo hi w h m) (k : Sto w w' b T ds) (hb : b < lo ∨ hi ≤ b) : IsMach lo hi w' h m := ⟨x.start.sto k hb, x.send.sto k hb, x.clauses.sto k hb, x.output.sto k hb⟩
theorem IsMach.kx {b : Nat} (x : IsMach lo hi w h m) (k : KX b w w') (hb : b < lo ∨ hi ≤ b) : IsMach lo hi w' h m := ⟨x.start.kx k hb, x.send.kx k hb, x.clauses.kx k hb, x.output.kx k hb⟩
theorem IsMach.app {a' : Option Addr} {lo' sz' n' c' : Nat} {E : TypeId} {ds : List Value} (x : IsMach lo hi w h m) (k : Apd w w' a') (o : Own lo' w E sz' a' n' c' ds) (hb : hi ≤ lo') : IsMach lo hi w' h m := ⟨x.start.app k o hb, x.send.app k o hb, x.clauses.app k o hb, x.output.app k o hb⟩
theorem FMach.is (x : FMach lo hi w h m) : IsMach lo hi w h m := by
  obtain ⟨p, q, r, h1, h2, h3, h4, x1, x2, x3, x4⟩ := x
  exact ⟨(FIntss.is x1).mono (by omega) (by omega), (FIntss.is x2).mono (by omega) (by omega), (FClauses.is x3).mono (by omega) (by omega), x4.is.mono (by omega) (by omega)⟩
theorem FMach.ext (x : FMach lo hi w h m) (k : Ext w w') : FMach lo hi w' h m := by
  obtain ⟨p, q, r, h1, h2, h3, h4, x1, x2, x3, x4⟩ := x
  exact ⟨p, q, r, h1, h2, h3, h4, x1.ext k, x2.ext k, x3.ext k, x4.ext k⟩
theorem FMach.sto {b : Nat} {T : TypeId} {ds : List Value} (x : FMach lo hi w h m) (k : Sto w w' b T ds) (hb : b < lo ∨ hi ≤ b) : FMach lo hi w' h m := by
  obtain ⟨p, q, r, h1, h2, h3, h4, x1, x2, x3, x4⟩ := x
  exact ⟨p, q, r, h1, h2, h3, h4, x1.sto k (by omega), x2.sto k (by omega), x3.sto k (by omega), x4.sto k (by omega)⟩
end
section
variable {lo hi : Nat} {w w' : World} {h : NA} {m : Net}
theorem IsNet.ext (x : IsNet lo hi w h m) (k : Ext w w') : IsNet lo hi w' h m := ⟨x.ends.ext k, x.ids.ext k, x.inputs.ext k⟩
theorem IsNet.sto {b : Nat} {T : TypeId} {ds : List Value} (x : IsNet lo hi w h m) (k : Sto w w' b T ds) (hb : b < lo ∨ hi ≤ b) : IsNet lo hi w' h m := ⟨x.ends.sto k hb, x.ids.sto k hb, x.inputs.sto k hb⟩
theorem IsNet.kx {b : Nat} (x : IsNet lo hi w h m) (k : KX b w w') (hb : b < lo ∨ hi ≤ b) : IsNet lo hi w' h m := ⟨x.ends.kx k hb, x.ids.kx k hb, x.inputs.kx k hb⟩
theorem IsNet.app {a' : Option Addr} {lo' sz' n' c' : Nat} {E : TypeId} {ds : List Value} (x : IsNet lo hi w h m) (k : Apd w w' a') (o : Own lo' w E sz' a' n' c' ds) (hb : hi ≤ lo') : IsNet lo hi w' h m := ⟨x.ends.app k o hb, x.ids.app k o hb, x.inputs.app k o hb⟩
theorem FNet.is (x : FNet lo hi w h m) : IsNet lo hi w h m := by
  obtain ⟨p, q, h1, h2, h3, x1, x2, x3⟩ := x
  exact ⟨(FPairss.is x1).mono (by omega) (by omega), x2.is.mono (by omega) (by omega), x3.is.mono (by omega) (by omega)⟩
theorem FNet.ext (x : FNet lo hi w h m) (k : Ext w w') : FNet lo hi w' h m := by
  obtain ⟨p, q, h1, h2, h3, x1, x2, x3⟩ := x
  exact ⟨p, q, h1, h2, h3, x1.ext k, x2.ext k, x3.ext k⟩
theorem FNet.sto {b : Nat} {T : TypeId} {ds : List Value} (x : FNet lo hi w h m) (k : Sto w w' b T ds) (hb : b < lo ∨ hi ≤ b) : FNet lo hi w' h m := by
  obtain ⟨p, q, h1, h2, h3, x1, x2, x3⟩ := x
  exact ⟨p, q, h1, h2, h3, x1.sto k (by omega), x2.sto k (by omega), x3.sto k (by omega)⟩
end
theorem IsNet.lo {b : Nat} {l r : Nat} {w w' : World} {h : NA} {m : Net} (x : IsNet l r w h m) (k : Lo b w w') (hb : r ≤ b) : IsNet l r w' h m := ⟨x.ends.lo k hb, x.ids.lo k hb, x.inputs.lo k hb⟩
theorem IsNet.rg {lo hi p q l r : Nat} {w w' : World} {h : NA} {m : Net} (x : IsNet l r w h m) (k : Rg lo hi p q w w') (hb : (r ≤ lo ∨ hi ≤ l ∨ (p ≤ l ∧ r ≤ q)) ∧ r ≤ w.heap.size) : IsNet l r w' h m := ⟨x.ends.rg k hb, x.ids.rg k hb, x.inputs.rg k hb⟩
theorem IsMach.rg {lo hi p q l r : Nat} {w w' : World} {h : MA} {m : Mach} (x : IsMach l r w h m) (k : Rg lo hi p q w w') (hb : (r ≤ lo ∨ hi ≤ l ∨ (p ≤ l ∧ r ≤ q)) ∧ r ≤ w.heap.size) : IsMach l r w' h m := ⟨x.start.rg k hb, x.send.rg k hb, x.clauses.rg k hb, x.output.rg k hb⟩
theorem FNet.rg {lo hi p' q' l r : Nat} {w w' : World} {h : NA} {m : Net} (x : FNet l r w h m) (k : Rg lo hi p' q' w w') (hb : (r ≤ lo ∨ hi ≤ l ∨ (p' ≤ l ∧ r ≤ q')) ∧ r ≤ w.heap.size) : FNet l r w' h m := by
  obtain ⟨p, q, h1, h2, h3, x1, x2, x3⟩ := x
  exact ⟨p, q, h1, h2, h3, x1.rg k (by omega), x2.rg k (by omega), x3.rg k (by omega)⟩
theorem FMach.rg {lo hi p' q' l r : Nat} {w w' : World} {h : MA} {m : Mach} (x : FMach l r w h m) (k : Rg lo hi p' q' w w') (hb : (r ≤ lo ∨ hi ≤ l ∨ (p' ≤ l ∧ r ≤ q')) ∧ r ≤ w.heap.size) : FMach l r w' h m := by
  obtain ⟨p, q, s, h1, h2, h3, h4, x1, x2, x3, x4⟩ := x
  exact ⟨p, q, s, h1, h2, h3, h4, x1.rg k (by omega), x2.rg k (by omega), x3.rg k (by omega), x4.rg k (by omega)⟩
theorem IsMach.lo {b : Nat} {l r : Nat} {w w' : World} {h : MA} {m : Mach} (x : IsMach l r w h m) (k : Lo b w w') (hb : r ≤ b) : IsMach l r w' h m := ⟨x.start.lo k hb, x.send.lo k hb, x.clauses.lo k hb, x.output.lo k hb⟩
theorem FNet.lo {b : Nat} {l r : Nat} {w w' : World} {h : NA} {m : Net} (x : FNet l r w h m) (k : Lo b w w') (hb : r ≤ b) : FNet l r w' h m := by
  obtain ⟨p, q, h1, h2, h3, x1, x2, x3⟩ := x
  exact ⟨p, q, h1, h2, h3, x1.lo k (by omega), x2.lo k (by omega), x3.lo k (by omega)⟩
theorem FMach.lo {b : Nat} {l r : Nat} {w w' : World} {h : MA} {m : Mach} (x : FMach l r w h m) (k : Lo b w w') (hb : r ≤ b) : FMach l r w' h m := by
  obtain ⟨p, q, s, h1, h2, h3, h4, x1, x2, x3, x4⟩ := x
  exact ⟨p, q, s, h1, h2, h3, h4, x1.lo k (by omega), x2.lo k (by omega), x3.lo k (by omega), x4.lo k (by omega)⟩
def totM (m : Mach) : Nat := totL m.start + totL m.send + totC m.clauses + m.output.length
def totN (n : Net) : Nat := totL n.ends + n.ids.length + n.inputs.length
/-- No slice of it is longer than an int can say. -/
structure SmM (m : Mach) : Prop where
  start : (m.start.length : Int) ≤ 9223372036854775807
  starts : ∀ x ∈ m.start, (x.length : Int) ≤ 9223372036854775807
  send : (m.send.length : Int) ≤ 9223372036854775807
  sends : ∀ x ∈ m.send, (x.length : Int) ≤ 9223372036854775807
  clauses : (m.clauses.length : Int) ≤ 9223372036854775807
  clausess : ∀ x ∈ m.clauses, (x.2.1.length : Int) ≤ 9223372036854775807
  output : (m.output.length : Int) ≤ 9223372036854775807
structure SmN (n : Net) : Prop where
  ends : (n.ends.length : Int) ≤ 9223372036854775807
  endss : ∀ x ∈ n.ends, (x.length : Int) ≤ 9223372036854775807
  ids : (n.ids.length : Int) ≤ 9223372036854775807
  inputs : (n.inputs.length : Int) ≤ 9223372036854775807

set_option maxRecDepth 100000 in
theorem szNetwork_spec {lo hi : Nat} (h : NA) (m : Net) (left : Int) (w : World) (hN : IsNet lo hi w h m) (hl : 0 ≤ left ∧ left ≤ 1048576) (hs : SmN m) :
    Fn Try.prog 4 #[netV h m, VI left] w (fun v w' => ∃ r, v = VI r ∧ Ext w w' ∧ (r < 0 ∨ (0 ≤ r ∧ r + totN m = left))) := by
  have hs2 := hs.ids
  have hs3 := hs.inputs
  have hE := Ext.refl w
  refine Fn_of Try.func4 rfl rfl (by kernel_rfl) rfl ?_
  refine W_seq ?_
  refine W_region ?_
  refine WL_m rfl (ev_box rfl) ?_
  rintro _ w2 ⟨rfl, hN2⟩
  have hz2 := hN2.size
  replace hE := hE.trans hN2.ext
  replace hN := hN.ext hN2.ext
  have hB2 : Blk w2 _ _ [_, _, _] := hN2.blk
  refine WL_q rfl (ev_assign rfl) ?_
  refine WL_nil ?_
  refine thenE_n ?_
  refine W_seq ?_
  refine W_region ?_
  refine WL_q rfl (ev_fieldAddr fo25_0 rfl) ?_
  refine WL_q rfl (ev_load one22 rfl (hB2.cell rfl)) ?_
  refine WL_q rfl (ev_move rfl) ?_
  refine WL_m rfl (ev_call rfl (szEndSS_spec _ _ _ _ _ hN.ends (by omega) hs.ends hs.endss)) ?_
  rintro _ w8 ⟨r8, rfl, hE8, hr8⟩
  have hz8 := hE8.size
  replace hE := hE.trans hE8
  replace hN := hN.ext hE8
  replace hB2 := hB2.ext hE8
  refine WL_q rfl (ev_assign rfl) ?_
  refine WL_nil ?_
  refine thenE_n ?_
  refine W_seq ?_
  refine W_seq ?_
  refine W_region ?_
  refine WL_q rfl (ev_move rfl) ?_
  refine WL_q rfl (ev_lss rfl rfl) ?_
  refine WL_nil ?_
  refine thenE_n ?_
  refine W_cond rfl (fun hg10 => ?_) (fun hg10 => ?_)
  · have hp10 := of_decide_eq_true hg10
    refine W_seq ?_
    refine W_region ?_
    refine WL_q rfl (ev_assign rfl) ?_
    refine WL_nil ?_
    refine thenE_n ?_
    refine W_ret ?_
    refine thenE_r ?_
    refine ret1 rfl rfl ?_
    exact ⟨_, rfl, hE, .inl (by omega)⟩
  · have hp10 := of_decide_eq_false hg10
    refine W_skip ?_
    refine thenE_n ?_
    refine W_seq ?_
    refine W_region ?_
    refine WL_q rfl (ev_fieldAddr fo25_1 rfl) ?_
    refine WL_q rfl (ev_load one23 rfl (hB2.cell rfl)) ?_
    refine WL_q rfl (ev_move rfl) ?_
    refine WL_m rfl (ev_call rfl (szIntS_spec _ _ _ _ _ (by omega) (by omega))) ?_
    rintro _ _ ⟨r14, rfl, rfl, hr14⟩
    refine WL_q rfl (ev_assign rfl) ?_
    refine WL_nil ?_
    refine thenE_n ?_
    refine W_seq ?_
    refine W_seq ?_
    refine W_region ?_
    refine WL_q rfl (ev_move rfl) ?_
    refine WL_q rfl (ev_lss rfl rfl) ?_
    refine WL_nil ?_
    refine thenE_n ?_
    refine W_cond rfl (fun hg16 => ?_) (fun hg16 => ?_)
    · have hp16 := of_decide_eq_true hg16
      refine W_seq ?_
      refine W_region ?_
      refine WL_q rfl (ev_assign rfl) ?_
      refine WL_nil ?_
      refine thenE_n ?_
      refine W_ret ?_
      refine thenE_r ?_
      refine ret1 rfl rfl ?_
      exact ⟨_, rfl, hE, .inl (by omega)⟩
    · have hp16 := of_decide_eq_false hg16
      refine W_skip ?_
      refine thenE_n ?_
      refine W_seq ?_
      refine W_region ?_
      refine WL_q rfl (ev_fieldAddr fo25_2 rfl) ?_
      refine WL_q rfl (ev_load one23 rfl (hB2.cell rfl)) ?_
      refine WL_q rfl (ev_move rfl) ?_
      refine WL_m rfl (ev_call rfl (szIntS_spec _ _ _ _ _ (by omega) (by omega))) ?_
      rintro _ _ ⟨r20, rfl, rfl, hr20⟩
      refine WL_q rfl (ev_assign rfl) ?_
      refine WL_nil ?_
      refine thenE_n ?_
      refine W_seq ?_
      refine W_seq ?_
      refine W_region ?_
      refine WL_q rfl (ev_move rfl) ?_
      refine WL_q rfl (ev_lss rfl rfl) ?_
      refine WL_nil ?_
      refine thenE_n ?_
      refine W_cond rfl (fun hg22 => ?_) (fun hg22 => ?_)
      · have hp22 := of_decide_eq_true hg22
        refine W_seq ?_
        refine W_region ?_
        refine WL_q rfl (ev_assign rfl) ?_
        refine WL_nil ?_
        refine thenE_n ?_
        refine W_ret ?_
        refine thenE_r ?_
        refine ret1 rfl rfl ?_
        exact ⟨_, rfl, hE, .inl (by omega)⟩
      · have hp22 := of_decide_eq_false hg22
        refine W_skip ?_
        refine thenE_n ?_
        refine W_seq ?_
        refine W_region ?_
        refine WL_q rfl (ev_move rfl) ?_
        refine WL_q rfl (ev_assign rfl) ?_
        refine WL_nil ?_
        refine thenE_n ?_
        refine W_ret ?_
        refine ret1 rfl rfl ?_
        exact ⟨_, rfl, hE, .inr ⟨by omega, by unfold totN; omega⟩⟩

set_option maxRecDepth 100000 in
theorem toNetwork_spec {lo hi : Nat} (h : NA) (m : Net) (w : World) (hN : IsNet lo hi w h m) (hhi : hi ≤ w.heap.size) (hn : totN m ≤ 1048576) :
    Fn Try.prog 6 #[netV h m] w (fun v w' => ∃ h', v = netV h' m ∧ FNet w.heap.size w'.heap.size w' h' m ∧ Ext w w') := by
  unfold totN at hn
  have hE := Ext.refl w
  refine Fn_of Try.func6 rfl rfl (by kernel_rfl) rfl ?_
  refine W_seq ?_
  refine W_region ?_
  refine WL_m rfl (ev_box rfl) ?_
  rintro _ w1 ⟨rfl, hN1⟩
  have hz1 := hN1.size
  replace hE := hE.trans hN1.ext
  replace hN := hN.ext hN1.ext
  have hB1 : Blk w1 _ _ [_, _, _] := hN1.blk
  refine WL_m rfl (ev_alloc zr31) ?_
  rintro _ w2 ⟨rfl, hN2⟩
  have hz2 := hN2.size
  replace hE := hE.trans hN2.ext
  replace hN := hN.ext hN2.ext
  replace hB1 := hB1.ext hN2.ext
  have hB2 : Blk w2 _ _ [_, _, _] := hN2.blk
  refine WL_nil ?_
  refine thenE_n ?_
  refine W_seq ?_
  refine W_region ?_
  refine WL_m rfl (ev_alloc zr31) ?_
  rintro _ w3 ⟨rfl, hN3⟩
  have hz3 := hN3.size
  replace hE := hE.trans hN3.ext
  replace hN := hN.ext hN3.ext
  replace hB1 := hB1.ext hN3.ext
  replace hB2 := hB2.ext hN3.ext
  have hB3 : Blk w3 _ _ [_, _, _] := hN3.blk
  refine WL_nil ?_
  refine thenE_n ?_
  refine W_seq ?_
  refine W_region ?_
  refine WL_q rfl (ev_fieldAddr fo25_0 rfl) ?_
  refine WL_q rfl (ev_load one22 rfl (hB1.cell rfl)) ?_
  refine WL_m rfl (ev_call rfl (toEndSS_spec _ _ _ _ hN.ends (by omega) (by omega))) ?_
  rintro _ w6 ⟨a6, rfl, hF6, hE6⟩
  have hz6 := hE6.size
  replace hE := hE.trans hE6
  replace hN := hN.ext hE6
  replace hB1 := hB1.ext hE6
  replace hB2 := hB2.ext hE6
  replace hB3 := hB3.ext hE6
  refine WL_q rfl (ev_fieldAddr fo31_0 rfl) ?_
  refine WL_s (ev_store sz29 rfl rfl rfl hB3 (by simp)) ?_
  rintro _ w2_4 hS2_4
  have hz2_4 := hS2_4.size
  replace hE := hE.sto hS2_4 (by omega)
  replace hN := hN.sto hS2_4 (by omega)
  replace hB1 := hB1.sto hS2_4 (by omega)
  replace hB2 := hB2.sto hS2_4 (by omega)
  replace hF6 := hF6.sto hS2_4 (by omega)
  replace hB3 : Blk w2_4 _ _ [_, _, _] := hS2_4.blk
  refine WL_nil ?_
  refine thenE_n ?_
  refine W_seq ?_
  refine W_region ?_
  refine WL_q rfl (ev_fieldAddr fo25_1 rfl) ?_
  refine WL_q rfl (ev_load one23 rfl (hB1.cell rfl)) ?_
  refine WL_m rfl (ev_call rfl (toIntS_spec _ _ _ _ hN.ids (by omega) (by omega))) ?_
  rintro _ w10 ⟨a10, rfl, hF10, hE10⟩
  have hz10 := hE10.size
  replace hE := hE.trans hE10
  replace hN := hN.ext hE10
  replace hB1 := hB1.ext hE10
  replace hB2 := hB2.ext hE10
  replace hB3 := hB3.ext hE10
  replace hF6 := hF6.ext hE10
  refine WL_q rfl (ev_fieldAddr fo31_1 rfl) ?_
  refine WL_s (ev_store sz23 rfl rfl rfl hB3 (by simp)) ?_
  rintro _ w3_4 hS3_4
  have hz3_4 := hS3_4.size
  replace hE := hE.sto hS3_4 (by omega)
  replace hN := hN.sto hS3_4 (by omega)
  replace hB1 := hB1.sto hS3_4 (by omega)
  replace hB2 := hB2.sto hS3_4 (by omega)
  replace hF6 := hF6.sto hS3_4 (by omega)
  replace hF10 := hF10.sto hS3_4 (by omega)
  replace hB3 : Blk w3_4 _ _ [_, _, _] := hS3_4.blk
  refine WL_nil ?_
  refine thenE_n ?_
  refine W_seq ?_
  refine W_region ?_
  refine WL_q rfl (ev_fieldAddr fo25_2 rfl) ?_
  refine WL_q rfl (ev_load one23 rfl (hB1.cell rfl)) ?_
  refine WL_m rfl (ev_call rfl (toIntS_spec _ _ _ _ hN.inputs (by omega) (by omega))) ?_
  rintro _ w14 ⟨a14, rfl, hF14, hE14⟩
  have hz14 := hE14.size
  replace hE := hE.trans hE14
  replace hN := hN.ext hE14
  replace hB1 := hB1.ext hE14
  replace hB2 := hB2.ext hE14
  replace hB3 := hB3.ext hE14
  replace hF6 := hF6.ext hE14
  replace hF10 := hF10.ext hE14
  refine WL_q rfl (ev_fieldAddr fo31_2 rfl) ?_
  refine WL_s (ev_store sz23 rfl rfl rfl hB3 (by simp)) ?_
  rintro _ w4_4 hS4_4
  have hz4_4 := hS4_4.size
  replace hE := hE.sto hS4_4 (by omega)
  replace hN := hN.sto hS4_4 (by omega)
  replace hB1 := hB1.sto hS4_4 (by omega)
  replace hB2 := hB2.sto hS4_4 (by omega)
  replace hF6 := hF6.sto hS4_4 (by omega)
  replace hF10 := hF10.sto hS4_4 (by omega)
  replace hF14 := hF14.sto hS4_4 (by omega)
  replace hB3 : Blk w4_4 _ _ [_, _, _] := hS4_4.blk
  refine WL_nil ?_
  refine thenE_n ?_
  refine W_seq ?_
  refine W_region ?_
  refine WL_q rfl (ev_loads st31 sz31 rfl (cellsB hB3) rfl) ?_
  refine WL_s (ev_stores sz31 rfl rfl rfl (by simp [Value.oneCell']) hB2 (by simp)) ?_
  rintro _ w5_1 hS5_1
  have hz5_1 := hS5_1.size
  replace hE := hE.sto hS5_1 (by omega)
  replace hN := hN.sto hS5_1 (by omega)
  replace hB1 := hB1.sto hS5_1 (by omega)
  replace hB3 := hB3.sto hS5_1 (by omega)
  replace hF6 := hF6.sto hS5_1 (by omega)
  replace hF10 := hF10.sto hS5_1 (by omega)
  replace hF14 := hF14.sto hS5_1 (by omega)
  replace hB2 : Blk w5_1 _ _ [_, _, _] := hS5_1.blk
  refine WL_nil ?_
  refine thenE_n ?_
  refine W_ret ?_
  refine retc rfl rfl st31 sz31 (cellsB hB2) rfl ?_
  exact ⟨⟨a6, m.ends.length, a10, m.ids.length, a14, m.inputs.length⟩, rfl, ⟨w6.heap.size, w10.heap.size, by omega, by omega, by omega, hF6.mono (by omega) (by omega), hF10.mono (by omega) (by omega), hF14.mono (by omega) (by omega)⟩, hE⟩

end Go.Proofs.Yticlopepmnlkmaa
