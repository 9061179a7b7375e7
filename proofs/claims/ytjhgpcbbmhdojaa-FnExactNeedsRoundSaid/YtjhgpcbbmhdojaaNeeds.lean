/- Contracts of NeedsIds and NeedsRound, of the program and of the reference. -/
import Derived.Test.YtjhgpcbbmhdojaaValue
import Derived.Test.YtjhgpcbbmhdojaaLib
namespace Go.Proofs.Ytjhgpcbbmhdojaa
open Go Go.RowKit

def usesK (xs : List (Int × Int)) (k : Int) : Bool := xs.any fun p => decide (p.1 = k)
theorem usesK_at {xs : List (Int × Int)} {k : Int} {i : Nat} (hi : i < xs.length) (h : xs[i].1 = k) : usesK xs k = true := List.any_eq_true.2 ⟨xs[i], List.getElem_mem hi, by simp [h]⟩
theorem usesK_none {xs : List (Int × Int)} {k : Int} (h : ∀ j (h2 : j < xs.length), ¬ xs[j].1 = k) : usesK xs k = false := by
  simp only [usesK, List.any_eq_false, decide_eq_true_eq]
  intro p hp
  obtain ⟨i, hi, rfl⟩ := List.mem_iff_getElem.1 hp
  exact h i hi

set_option maxRecDepth 100000 in
theorem vaUses_spec {lo hi : Nat} (a : Option Addr) (c : Nat) (xs : List (Int × Int)) (k : Int) (w : World) (hx : Pairs lo hi w a c xs) (hhi : hi ≤ w.heap.size) (hm : (xs.length : Int) < 9223372036854775807) :
    Fn Try.prog 56 #[.slice a xs.length c, VI k] w (fun v w' => v = VB (usesK xs k) ∧ Ext w w') := by
  have hE := Ext.refl w
  refine Fn_of Try.func56 rfl rfl (by kernel_rfl) rfl ?_
  refine W_seq ?_
  refine W_region ?_
  refine WL_q rfl (ev_assign rfl) ?_
  refine WL_nil ?_
  refine thenE_n ?_
  refine W_seq ?_
  refine W_seq ?_
  refine W_region ?_
  refine WL_q rfl (ev_move rfl) ?_
  refine WL_q rfl (ev_len Try.underlying25 rfl) ?_
  refine WL_q rfl (ev_move rfl) ?_
  refine WL_nil ?_
  refine thenE_n ?_
  refine W_block ?_
  refine W_loopC (G := Nat) [(1, _), (7, _), (8, _)] ((Subs.c rfl (Subs.c rfl (Subs.c rfl Subs.n)))) (fun i => [(9, VI (i : Int))]) (fun i w' => Ext w w' ∧ i ≤ xs.length ∧ ∀ j (_h : j < i) (h2 : j < xs.length), ¬ xs[j].1 = k) (fun i => xs.length - i) 0 ((Subs.c (lkI rfl (by omega)) Subs.n)) (⟨Ext.refl _, ⟨by omega, fun j h => by omega⟩⟩) ?_
  rintro i wL0 ⟨hRL0, hi, hJ⟩
  have hzL0 := hRL0.size
  replace hE := hE.trans hRL0
  replace hx := hx.ext hRL0
  refine W_seq ?_
  refine W_region ?_
  refine WL_q rfl (ev_lss rfl rfl) ?_
  refine WL_nil ?_
  refine thenE_n ?_
  refine W_seq ?_
  refine W_cond rfl (fun hg10 => ?_) (fun hg10 => ?_)
  · have hp10 := of_decide_eq_true hg10
    refine W_skip ?_
    refine thenE_n ?_
    refine W_seq ?_
    refine W_block ?_
    refine W_seq ?_
    refine W_region ?_
    refine WL_q rfl (ev_indexAddr Try.underlying25 sz71 rfl rfl (hx.isSome (by omega)) (by omega) (by omega)) ?_
    refine WL_q rfl (ev_loads st71 sz71 rfl (hx.cells (i := i) (by omega)) rfl) ?_
    refine WL_m rfl (ev_alloc zr71) ?_
    rintro _ w6 ⟨rfl, hN6⟩
    have hz6 := hN6.size
    replace hE := hE.trans hN6.ext
    replace hRL0 := hRL0.trans hN6.ext
    replace hx := hx.ext hN6.ext
    have hB6 : Blk w6 _ _ [_, _] := hN6.blk
    refine WL_s (ev_stores sz71 rfl rfl rfl (by simp [Value.oneCell']) hB6 (by simp)) ?_
    rintro _ w3_3 hS3_3
    have hz3_3 := hS3_3.size
    replace hE := hE.sto hS3_3 (by omega)
    replace hRL0 := hRL0.sto hS3_3 (by omega)
    replace hx := hx.sto hS3_3 (by omega)
    replace hB6 : Blk w3_3 _ _ [_, _] := hS3_3.blk
    refine WL_nil ?_
    refine thenE_n ?_
    refine W_seq ?_
    refine W_region ?_
    refine WL_q rfl (ev_fieldAddr fo71_0 rfl) ?_
    refine WL_q rfl (ev_load one3 rfl (hB6.cell rfl)) ?_
    refine WL_q rfl (ev_move rfl) ?_
    refine WL_q rfl (ev_eql rfl rfl) ?_
    refine WL_nil ?_
    refine thenE_n ?_
    refine W_cond rfl (fun hg16 => ?_) (fun hg16 => ?_)
    · have hp16 := of_decide_eq_true hg16
      refine W_seq ?_
      refine W_region ?_
      refine WL_q rfl (ev_assign rfl) ?_
      refine WL_nil ?_
      refine thenE_n ?_
      refine W_ret ?_
      refine blockE_r ?_
      refine thenE_r ?_
      refine thenE_r ?_
      refine blockE_r ?_
      refine thenE_r ?_
      refine ret1 rfl rfl ?_
      first | exact ⟨vb (usesK_at (by omega) hp16).symm, hE⟩ | exact ⟨vb (usesK_none fun j h2 => hJ j (by omega) h2).symm, hE⟩
    · have hp16 := of_decide_eq_false hg16
      refine W_skip ?_
      refine blockE_n ?_
      refine thenE_n ?_
      refine W_region ?_
      refine WL_q rfl (ev_add rfl rfl (by omega)) ?_
      refine WL_q rfl (ev_move rfl) ?_
      refine WL_nil ?_
      refine thenE_n ?_
      exact ⟨i + 1, (Subs.c rfl (Subs.c rfl (Subs.c rfl Subs.n))), (Subs.c (lkI rfl (by omega)) Subs.n), ⟨hRL0, ⟨by omega, fun j h1 h2 => by
    by_cases hj : j = i
    · subst hj; exact hp16
    · exact hJ j (by omega) h2⟩⟩, by first | omega | (dsimp only; omega)⟩
  · have hp10 := of_decide_eq_false hg10
    refine W_exit ?_
    refine thenE_x ?_
    refine thenE_x ?_
    refine blockE_hit ?_
    refine thenE_n ?_
    refine W_seq ?_
    refine W_region ?_
    refine WL_q rfl (ev_assign rfl) ?_
    refine WL_nil ?_
    refine thenE_n ?_
    refine W_ret ?_
    refine ret1 rfl rfl ?_
    first | exact ⟨vb (usesK_at (by omega) hp16).symm, hE⟩ | exact ⟨vb (usesK_none fun j h2 => hJ j (by omega) h2).symm, hE⟩

set_option maxRecDepth 100000 in
theorem hasKind_1 (k x kk : Int) (b : Nat) (T : TypeId) (w : World) (hk : Blk w b T [VI kk]) :
    Fn Try.prog 105 #[.agg #[VI k, VI x], ptr b 0] w (fun v w' => v = VB (decide (k = kk)) ∧ Ext w w') := by
  have hE := Ext.refl w
  refine Fn_of Try.func105 rfl rfl (by kernel_rfl) rfl ?_
  refine W_seq ?_
  refine W_region ?_
  refine WL_m rfl (ev_box rfl) ?_
  rintro _ w2 ⟨rfl, hN2⟩
  have hz2 := hN2.size
  replace hE := hE.trans hN2.ext
  replace hk := hk.ext hN2.ext
  have hB2 : Blk w2 _ _ [_, _] := hN2.blk
  refine WL_q rfl (ev_assign rfl) ?_
  refine WL_nil ?_
  refine thenE_n ?_
  refine W_seq ?_
  refine W_region ?_
  refine WL_q rfl (ev_fieldAddr fo71_0 rfl) ?_
  refine WL_q rfl (ev_load one3 rfl (hB2.cell rfl)) ?_
  refine WL_q rfl (ev_load one3 rfl (hk.cell rfl)) ?_
  refine WL_q rfl (ev_eql rfl rfl) ?_
  refine WL_q rfl (ev_assign rfl) ?_
  refine WL_nil ?_
  refine thenE_n ?_
  refine W_ret ?_
  refine ret1 rfl rfl ?_
  exact ⟨rfl, hE⟩

set_option maxRecDepth 100000 in
theorem hasKind_spec {lo hi : Nat} (a : Option Addr) (c : Nat) (xs : List (Int × Int)) (k : Int) (w : World) (hx : Pairs lo hi w a c xs) (hhi : hi ≤ w.heap.size) (hm : (xs.length : Int) < 9223372036854775807) :
    Fn Try.prog 57 #[.slice a xs.length c, VI k] w (fun v w' => v = VB (usesK xs k) ∧ Ext w w') := by
  have hE := Ext.refl w
  refine Fn_of Try.func57 rfl rfl (by kernel_rfl) rfl ?_
  refine W_seq ?_
  refine W_region ?_
  refine WL_m rfl (ev_box rfl) ?_
  rintro _ w3 ⟨rfl, hN3⟩
  have hz3 := hN3.size
  replace hE := hE.trans hN3.ext
  replace hx := hx.ext hN3.ext
  have hB3 : Blk w3 _ _ [_] := hN3.blk
  refine WL_q rfl (ev_assign rfl) ?_
  refine WL_nil ?_
  refine thenE_n ?_
  refine W_seq ?_
  refine W_region ?_
  refine WL_q rfl (ev_move rfl) ?_
  refine WL_q rfl (ev_makeFunc rfl rfl) ?_
  refine WL_m rfl (ev_call rfl (ContainsFunc_op _ _ xs _ _ (fun p => decide (p.1 = k)) _ hx (by omega) (fun i h w1 hw => hasKind_1 _ _ k _ _ w1 (hB3.ext hw)))) ?_
  rintro _ w7 ⟨rfl, hE7⟩
  have hz7 := hE7.size
  replace hE := hE.trans hE7
  replace hx := hx.ext hE7
  replace hB3 := hB3.ext hE7
  refine WL_q rfl (ev_assign rfl) ?_
  refine WL_nil ?_
  refine thenE_n ?_
  refine W_ret ?_
  refine ret1 rfl rfl ?_
  exact ⟨rfl, hE⟩

set_option maxRecDepth 100000 in
theorem sNeedsIds_spec {lo hi : Nat} (a : Option Addr) (c : Nat) (xs : List (Int × Int)) (w : World) (hx : Pairs lo hi w a c xs) (hhi : hi ≤ w.heap.size) (hm : (xs.length : Int) < 9223372036854775807) :
    Fn Try.prog 19 #[.slice a xs.length c] w (fun v w' => v = .tuple #[VB (vOk xs && usesK xs 3), VB (vOk xs)] ∧ Ext w w') := by
  have hE := Ext.refl w
  refine Fn_of Try.func19 rfl rfl (by kernel_rfl) rfl ?_
  refine W_seq ?_
  refine W_region ?_
  refine WL_q rfl (ev_assign rfl) ?_
  refine WL_q rfl (ev_assign rfl) ?_
  refine WL_nil ?_
  refine thenE_n ?_
  refine W_seq ?_
  refine W_seq ?_
  refine W_region ?_
  refine WL_q rfl (ev_move rfl) ?_
  refine WL_m rfl (ev_call rfl (vaGood_spec _ _ _ _ (by assumption) (by omega))) ?_
  rintro _ w5 ⟨rfl, hE5⟩
  have hz5 := hE5.size
  replace hE := hE.trans hE5
  replace hx := hx.ext hE5
  refine WL_q rfl (ev_not rfl) ?_
  refine WL_nil ?_
  refine thenE_n ?_
  refine W_cond rfl (fun hg6 => ?_) (fun hg6 => ?_)
  · have hg5 := not_true hg6
    refine W_seq ?_
    refine W_region ?_
    refine WL_q rfl (ev_assign rfl) ?_
    refine WL_q rfl (ev_assign rfl) ?_
    refine WL_nil ?_
    refine thenE_n ?_
    refine W_ret ?_
    refine thenE_r ?_
    refine ret2 rfl rfl rfl ?_
    exact ⟨by simp [hg5], hE⟩
  · have hg5 := not_false hg6
    refine W_skip ?_
    refine thenE_n ?_
    refine W_seq ?_
    refine W_region ?_
    refine WL_q rfl (ev_move rfl) ?_
    refine WL_m rfl (ev_call rfl (vaUses_spec _ _ _ _ _ (by assumption) (by omega) (by omega))) ?_
    rintro _ w8 ⟨rfl, hE8⟩
    have hz8 := hE8.size
    replace hE := hE.trans hE8
    replace hx := hx.ext hE8
    refine WL_q rfl (ev_assign rfl) ?_
    refine WL_q rfl (ev_assign rfl) ?_
    refine WL_nil ?_
    refine thenE_n ?_
    refine W_ret ?_
    refine ret2 rfl rfl rfl ?_
    exact ⟨by simp [hg5], hE⟩

set_option maxRecDepth 100000 in
theorem NeedsIds_spec {lo hi : Nat} (a : Option Addr) (c : Nat) (xs : List (Int × Int)) (w : World) (hx : Pairs lo hi w a c xs) (hhi : hi ≤ w.heap.size) (hm : (xs.length : Int) < 9223372036854775807) :
    Fn Try.prog 20 #[.slice a xs.length c] w (fun v w' => v = .tuple #[VB (vOk xs && usesK xs 3), VB (vOk xs)] ∧ Ext w w') := by
  have hE := Ext.refl w
  refine Fn_of Try.func20 rfl rfl (by kernel_rfl) rfl ?_
  refine W_seq ?_
  refine W_region ?_
  refine WL_q rfl (ev_assign rfl) ?_
  refine WL_q rfl (ev_assign rfl) ?_
  refine WL_nil ?_
  refine thenE_n ?_
  refine W_seq ?_
  refine W_seq ?_
  refine W_region ?_
  refine WL_q rfl (ev_move rfl) ?_
  refine WL_m rfl (ev_call rfl (IsValueProgram_spec _ _ _ _ (by assumption) (by omega))) ?_
  rintro _ w5 ⟨rfl, hE5⟩
  have hz5 := hE5.size
  replace hE := hE.trans hE5
  replace hx := hx.ext hE5
  refine WL_q rfl (ev_not rfl) ?_
  refine WL_nil ?_
  refine thenE_n ?_
  refine W_cond rfl (fun hg6 => ?_) (fun hg6 => ?_)
  · have hg5 := not_true hg6
    refine W_seq ?_
    refine W_region ?_
    refine WL_q rfl (ev_assign rfl) ?_
    refine WL_q rfl (ev_assign rfl) ?_
    refine WL_nil ?_
    refine thenE_n ?_
    refine W_ret ?_
    refine thenE_r ?_
    refine ret2 rfl rfl rfl ?_
    exact ⟨by simp [hg5], hE⟩
  · have hg5 := not_false hg6
    refine W_skip ?_
    refine thenE_n ?_
    refine W_seq ?_
    refine W_region ?_
    refine WL_q rfl (ev_move rfl) ?_
    refine WL_m rfl (ev_call rfl (hasKind_spec _ _ _ _ _ (by assumption) (by omega) (by omega))) ?_
    rintro _ w8 ⟨rfl, hE8⟩
    have hz8 := hE8.size
    replace hE := hE.trans hE8
    replace hx := hx.ext hE8
    refine WL_q rfl (ev_assign rfl) ?_
    refine WL_q rfl (ev_assign rfl) ?_
    refine WL_nil ?_
    refine thenE_n ?_
    refine W_ret ?_
    refine ret2 rfl rfl rfl ?_
    exact ⟨by simp [hg5], hE⟩

set_option maxRecDepth 100000 in
theorem law_NeedsIds (a : Option Addr) (c : Nat) (xs : List (Int × Int)) (w : World) (hx : Pairs 0 w.heap.size w a c xs) (hn : (xs.length : Int) ≤ 9223372036854775807) :
    Fn Try.prog 4 #[.slice a xs.length c] w (fun v w' => v = VB true ∧ Ext w w') := by
  have hE := Ext.refl w
  refine Fn_of Try.func4 rfl rfl (by kernel_rfl) rfl ?_
  refine W_seq ?_
  refine W_region ?_
  refine WL_q rfl (ev_assign rfl) ?_
  refine WL_nil ?_
  refine thenE_n ?_
  refine W_seq ?_
  refine W_region ?_
  refine WL_q rfl (ev_assign rfl) ?_
  refine WL_nil ?_
  refine thenE_n ?_
  refine W_seq ?_
  refine W_region ?_
  refine WL_q rfl (ev_move rfl) ?_
  refine WL_q rfl (ev_move rfl) ?_
  refine WL_m rfl (ev_call rfl (szValueOpS_spec _ _ _ _ _ (by omega) (by omega))) ?_
  rintro _ _ ⟨rfl, rfl⟩
  refine WL_q rfl (ev_assign rfl) ?_
  refine WL_nil ?_
  refine thenE_n ?_
  refine W_seq ?_
  refine W_seq ?_
  refine W_region ?_
  refine WL_q rfl (ev_move rfl) ?_
  refine WL_q rfl (ev_lss rfl rfl) ?_
  refine WL_nil ?_
  refine thenE_n ?_
  refine W_cond rfl (fun hg13 => ?_) (fun hg13 => ?_)
  · have hp13 := of_decide_eq_true hg13
    refine W_seq ?_
    refine W_region ?_
    refine WL_q rfl (ev_assign rfl) ?_
    refine WL_nil ?_
    refine thenE_n ?_
    refine W_ret ?_
    refine thenE_r ?_
    refine ret1 rfl rfl ?_
    first | exact ⟨rfl, hE⟩ | exact (bneF hg29).elim | exact (bneF hg33).elim | exact (decF hg38).elim
  · have hp13 := of_decide_eq_false hg13
    have hn2 := sz_le hp13
    refine W_skip ?_
    refine thenE_n ?_
    refine W_seq ?_
    refine W_region ?_
    refine WL_q rfl (ev_move rfl) ?_
    refine WL_m rfl (ev_call rfl (toValueOpS_spec _ _ _ _ (by assumption) (by omega) (by omega))) ?_
    rintro _ w16 ⟨b16, rfl, hb16, hb16B, hE16⟩
    have hz16 := hE16.size
    replace hE := hE.trans hE16
    replace hx := hx.ext hE16
    have hlt16 := hb16B.lt
    have hP16 := hb16B.pairs (Nat.le_refl _)
    refine WL_m rfl (ev_call rfl (sNeedsIds_spec _ _ _ _ (by assumption) (by omega) (by omega))) ?_
    rintro _ w17 ⟨rfl, hE17⟩
    have hz17 := hE17.size
    replace hE := hE.trans hE17
    replace hx := hx.ext hE17
    replace hb16B := hb16B.ext hE17
    replace hP16 := hP16.ext hE17
    refine WL_q rfl (ev_move rfl) ?_
    refine WL_q rfl (ev_extract rfl rfl) ?_
    refine WL_q rfl (ev_extract rfl rfl) ?_
    refine WL_q rfl (ev_assign rfl) ?_
    refine WL_q rfl (ev_assign rfl) ?_
    refine WL_nil ?_
    refine thenE_n ?_
    refine W_seq ?_
    refine W_region ?_
    refine WL_q rfl (ev_move rfl) ?_
    refine WL_m rfl (ev_call rfl (toValueOpS_spec _ _ _ _ (by assumption) (by omega) (by omega))) ?_
    rintro _ w21 ⟨b21, rfl, hb21, hb21B, hE21⟩
    have hz21 := hE21.size
    replace hE := hE.trans hE21
    replace hx := hx.ext hE21
    replace hb16B := hb16B.ext hE21
    replace hP16 := hP16.ext hE21
    have hlt21 := hb21B.lt
    have hP21 := hb21B.pairs (Nat.le_refl _)
    refine WL_q rfl (ev_assign rfl) ?_
    refine WL_nil ?_
    refine thenE_n ?_
    refine W_seq ?_
    refine W_region ?_
    refine WL_q rfl (ev_move rfl) ?_
    refine WL_m rfl (ev_call rfl (NeedsIds_spec _ _ _ _ (by assumption) (by omega) (by omega))) ?_
    rintro _ w24 ⟨rfl, hE24⟩
    have hz24 := hE24.size
    replace hE := hE.trans hE24
    replace hx := hx.ext hE24
    replace hb16B := hb16B.ext hE24
    replace hP16 := hP16.ext hE24
    replace hb21B := hb21B.ext hE24
    replace hP21 := hP21.ext hE24
    refine WL_q rfl (ev_move rfl) ?_
    refine WL_q rfl (ev_extract rfl rfl) ?_
    refine WL_q rfl (ev_extract rfl rfl) ?_
    refine WL_q rfl (ev_assign rfl) ?_
    refine WL_q rfl (ev_assign rfl) ?_
    refine WL_nil ?_
    refine thenE_n ?_
    refine W_seq ?_
    refine W_seq ?_
    refine W_region ?_
    refine WL_q rfl (ev_move rfl) ?_
    refine WL_q rfl (ev_move rfl) ?_
    refine WL_q rfl (ev_neq_b Try.underlying4 rfl rfl) ?_
    refine WL_q rfl (ev_move rfl) ?_
    refine WL_splitv (t := 30) rfl (fun hg29 => ?_) (fun hg29 => ?_)
    · refine WL_no rfl rfl hg29 rfl ?_
      refine WL_no rfl rfl hg29 rfl ?_
      refine WL_no rfl rfl hg29 rfl ?_
      refine WL_q rfl (ev_pick_t rfl hg29 rfl) ?_
      refine WL_nil ?_
      refine thenE_n ?_
      refine W_cond_t rfl ?_
      refine W_seq ?_
      refine W_region ?_
      refine WL_q rfl (ev_assign rfl) ?_
      refine WL_nil ?_
      refine thenE_n ?_
      refine W_ret ?_
      refine thenE_r ?_
      refine ret1 rfl rfl ?_
      first | exact ⟨rfl, hE⟩ | exact (bneF hg29).elim | exact (bneF hg33).elim | exact (decF hg38).elim
    · refine WL_qg rfl rfl hg29 rfl (ev_move rfl) ?_
      refine WL_qg rfl rfl hg29 rfl (ev_move rfl) ?_
      refine WL_qg rfl rfl hg29 rfl (ev_neq_b Try.underlying4 rfl rfl) ?_
      refine WL_q rfl (ev_pick_f rfl hg29 rfl) ?_
      refine WL_nil ?_
      refine thenE_n ?_
      refine W_cond rfl (fun hg33 => ?_) (fun hg33 => ?_)
      · refine W_seq ?_
        refine W_region ?_
        refine WL_q rfl (ev_assign rfl) ?_
        refine WL_nil ?_
        refine thenE_n ?_
        refine W_ret ?_
        refine thenE_r ?_
        refine ret1 rfl rfl ?_
        first | exact ⟨rfl, hE⟩ | exact (bneF hg29).elim | exact (bneF hg33).elim | exact (decF hg38).elim
      · refine W_skip ?_
        refine thenE_n ?_
        refine W_seq ?_
        refine W_seq ?_
        refine W_region ?_
        refine WL_q rfl (ev_move rfl) ?_
        refine WL_q rfl (ev_move rfl) ?_
        refine WL_m rfl (ev_call rfl (toValueOpS_spec _ _ _ _ (by assumption) (by omega) (by omega))) ?_
        rintro _ w37 ⟨b37, rfl, hb37, hb37B, hE37⟩
        have hz37 := hE37.size
        replace hE := hE.trans hE37
        replace hx := hx.ext hE37
        replace hb16B := hb16B.ext hE37
        replace hP16 := hP16.ext hE37
        replace hb21B := hb21B.ext hE37
        replace hP21 := hP21.ext hE37
        have hlt37 := hb37B.lt
        have hP37 := hb37B.pairs (Nat.le_refl _)
        refine WL_m rfl (ev_call rfl (eqValueOpS_spec _ _ _ _ _ _ _ (by assumption) (by assumption) (by omega))) ?_
        rintro _ w38 ⟨rfl, hE38⟩
        have hz38 := hE38.size
        replace hE := hE.trans hE38
        replace hx := hx.ext hE38
        replace hb16B := hb16B.ext hE38
        replace hP16 := hP16.ext hE38
        replace hb21B := hb21B.ext hE38
        replace hP21 := hP21.ext hE38
        replace hb37B := hb37B.ext hE38
        replace hP37 := hP37.ext hE38
        refine WL_q rfl (ev_not rfl) ?_
        refine WL_nil ?_
        refine thenE_n ?_
        refine W_cond rfl (fun hg39 => ?_) (fun hg39 => ?_)
        · have hg38 := not_true hg39
          refine W_seq ?_
          refine W_region ?_
          refine WL_q rfl (ev_assign rfl) ?_
          refine WL_nil ?_
          refine thenE_n ?_
          refine W_ret ?_
          refine thenE_r ?_
          refine ret1 rfl rfl ?_
          first | exact ⟨rfl, hE⟩ | exact (bneF hg29).elim | exact (bneF hg33).elim | exact (decF hg38).elim
        · have hg38 := not_false hg39
          refine W_skip ?_
          refine thenE_n ?_
          refine W_seq ?_
          refine W_region ?_
          refine WL_q rfl (ev_assign rfl) ?_
          refine WL_nil ?_
          refine thenE_n ?_
          refine W_ret ?_
          refine ret1 rfl rfl ?_
          first | exact ⟨rfl, hE⟩ | exact (bneF hg29).elim | exact (bneF hg33).elim | exact (decF hg38).elim

set_option maxRecDepth 100000 in
theorem sNeedsRound_spec {lo hi : Nat} (a : Option Addr) (c : Nat) (xs : List (Int × Int)) (w : World) (hx : Pairs lo hi w a c xs) (hhi : hi ≤ w.heap.size) (hm : (xs.length : Int) < 9223372036854775807) :
    Fn Try.prog 21 #[.slice a xs.length c] w (fun v w' => v = .tuple #[VB (vOk xs && usesK xs 6), VB (vOk xs)] ∧ Ext w w') := by
  have hE := Ext.refl w
  refine Fn_of Try.func21 rfl rfl (by kernel_rfl) rfl ?_
  refine W_seq ?_
  refine W_region ?_
  refine WL_q rfl (ev_assign rfl) ?_
  refine WL_q rfl (ev_assign rfl) ?_
  refine WL_nil ?_
  refine thenE_n ?_
  refine W_seq ?_
  refine W_seq ?_
  refine W_region ?_
  refine WL_q rfl (ev_move rfl) ?_
  refine WL_m rfl (ev_call rfl (vaGood_spec _ _ _ _ (by assumption) (by omega))) ?_
  rintro _ w5 ⟨rfl, hE5⟩
  have hz5 := hE5.size
  replace hE := hE.trans hE5
  replace hx := hx.ext hE5
  refine WL_q rfl (ev_not rfl) ?_
  refine WL_nil ?_
  refine thenE_n ?_
  refine W_cond rfl (fun hg6 => ?_) (fun hg6 => ?_)
  · have hg5 := not_true hg6
    refine W_seq ?_
    refine W_region ?_
    refine WL_q rfl (ev_assign rfl) ?_
    refine WL_q rfl (ev_assign rfl) ?_
    refine WL_nil ?_
    refine thenE_n ?_
    refine W_ret ?_
    refine thenE_r ?_
    refine ret2 rfl rfl rfl ?_
    exact ⟨by simp [hg5], hE⟩
  · have hg5 := not_false hg6
    refine W_skip ?_
    refine thenE_n ?_
    refine W_seq ?_
    refine W_region ?_
    refine WL_q rfl (ev_move rfl) ?_
    refine WL_m rfl (ev_call rfl (vaUses_spec _ _ _ _ _ (by assumption) (by omega) (by omega))) ?_
    rintro _ w8 ⟨rfl, hE8⟩
    have hz8 := hE8.size
    replace hE := hE.trans hE8
    replace hx := hx.ext hE8
    refine WL_q rfl (ev_assign rfl) ?_
    refine WL_q rfl (ev_assign rfl) ?_
    refine WL_nil ?_
    refine thenE_n ?_
    refine W_ret ?_
    refine ret2 rfl rfl rfl ?_
    exact ⟨by simp [hg5], hE⟩

set_option maxRecDepth 100000 in
theorem NeedsRound_spec {lo hi : Nat} (a : Option Addr) (c : Nat) (xs : List (Int × Int)) (w : World) (hx : Pairs lo hi w a c xs) (hhi : hi ≤ w.heap.size) (hm : (xs.length : Int) < 9223372036854775807) :
    Fn Try.prog 22 #[.slice a xs.length c] w (fun v w' => v = .tuple #[VB (vOk xs && usesK xs 6), VB (vOk xs)] ∧ Ext w w') := by
  have hE := Ext.refl w
  refine Fn_of Try.func22 rfl rfl (by kernel_rfl) rfl ?_
  refine W_seq ?_
  refine W_region ?_
  refine WL_q rfl (ev_assign rfl) ?_
  refine WL_q rfl (ev_assign rfl) ?_
  refine WL_nil ?_
  refine thenE_n ?_
  refine W_seq ?_
  refine W_seq ?_
  refine W_region ?_
  refine WL_q rfl (ev_move rfl) ?_
  refine WL_m rfl (ev_call rfl (IsValueProgram_spec _ _ _ _ (by assumption) (by omega))) ?_
  rintro _ w5 ⟨rfl, hE5⟩
  have hz5 := hE5.size
  replace hE := hE.trans hE5
  replace hx := hx.ext hE5
  refine WL_q rfl (ev_not rfl) ?_
  refine WL_nil ?_
  refine thenE_n ?_
  refine W_cond rfl (fun hg6 => ?_) (fun hg6 => ?_)
  · have hg5 := not_true hg6
    refine W_seq ?_
    refine W_region ?_
    refine WL_q rfl (ev_assign rfl) ?_
    refine WL_q rfl (ev_assign rfl) ?_
    refine WL_nil ?_
    refine thenE_n ?_
    refine W_ret ?_
    refine thenE_r ?_
    refine ret2 rfl rfl rfl ?_
    exact ⟨by simp [hg5], hE⟩
  · have hg5 := not_false hg6
    refine W_skip ?_
    refine thenE_n ?_
    refine W_seq ?_
    refine W_region ?_
    refine WL_q rfl (ev_move rfl) ?_
    refine WL_m rfl (ev_call rfl (hasKind_spec _ _ _ _ _ (by assumption) (by omega) (by omega))) ?_
    rintro _ w8 ⟨rfl, hE8⟩
    have hz8 := hE8.size
    replace hE := hE.trans hE8
    replace hx := hx.ext hE8
    refine WL_q rfl (ev_assign rfl) ?_
    refine WL_q rfl (ev_assign rfl) ?_
    refine WL_nil ?_
    refine thenE_n ?_
    refine W_ret ?_
    refine ret2 rfl rfl rfl ?_
    exact ⟨by simp [hg5], hE⟩

set_option maxRecDepth 100000 in
theorem law_NeedsRound (a : Option Addr) (c : Nat) (xs : List (Int × Int)) (w : World) (hx : Pairs 0 w.heap.size w a c xs) (hn : (xs.length : Int) ≤ 9223372036854775807) :
    Fn Try.prog 5 #[.slice a xs.length c] w (fun v w' => v = VB true ∧ Ext w w') := by
  have hE := Ext.refl w
  refine Fn_of Try.func5 rfl rfl (by kernel_rfl) rfl ?_
  refine W_seq ?_
  refine W_region ?_
  refine WL_q rfl (ev_assign rfl) ?_
  refine WL_nil ?_
  refine thenE_n ?_
  refine W_seq ?_
  refine W_region ?_
  refine WL_q rfl (ev_assign rfl) ?_
  refine WL_nil ?_
  refine thenE_n ?_
  refine W_seq ?_
  refine W_region ?_
  refine WL_q rfl (ev_move rfl) ?_
  refine WL_q rfl (ev_move rfl) ?_
  refine WL_m rfl (ev_call rfl (szValueOpS_spec _ _ _ _ _ (by omega) (by omega))) ?_
  rintro _ _ ⟨rfl, rfl⟩
  refine WL_q rfl (ev_assign rfl) ?_
  refine WL_nil ?_
  refine thenE_n ?_
  refine W_seq ?_
  refine W_seq ?_
  refine W_region ?_
  refine WL_q rfl (ev_move rfl) ?_
  refine WL_q rfl (ev_lss rfl rfl) ?_
  refine WL_nil ?_
  refine thenE_n ?_
  refine W_cond rfl (fun hg13 => ?_) (fun hg13 => ?_)
  · have hp13 := of_decide_eq_true hg13
    refine W_seq ?_
    refine W_region ?_
    refine WL_q rfl (ev_assign rfl) ?_
    refine WL_nil ?_
    refine thenE_n ?_
    refine W_ret ?_
    refine thenE_r ?_
    refine ret1 rfl rfl ?_
    first | exact ⟨rfl, hE⟩ | exact (bneF hg29).elim | exact (bneF hg33).elim | exact (decF hg38).elim
  · have hp13 := of_decide_eq_false hg13
    have hn2 := sz_le hp13
    refine W_skip ?_
    refine thenE_n ?_
    refine W_seq ?_
    refine W_region ?_
    refine WL_q rfl (ev_move rfl) ?_
    refine WL_m rfl (ev_call rfl (toValueOpS_spec _ _ _ _ (by assumption) (by omega) (by omega))) ?_
    rintro _ w16 ⟨b16, rfl, hb16, hb16B, hE16⟩
    have hz16 := hE16.size
    replace hE := hE.trans hE16
    replace hx := hx.ext hE16
    have hlt16 := hb16B.lt
    have hP16 := hb16B.pairs (Nat.le_refl _)
    refine WL_m rfl (ev_call rfl (sNeedsRound_spec _ _ _ _ (by assumption) (by omega) (by omega))) ?_
    rintro _ w17 ⟨rfl, hE17⟩
    have hz17 := hE17.size
    replace hE := hE.trans hE17
    replace hx := hx.ext hE17
    replace hb16B := hb16B.ext hE17
    replace hP16 := hP16.ext hE17
    refine WL_q rfl (ev_move rfl) ?_
    refine WL_q rfl (ev_extract rfl rfl) ?_
    refine WL_q rfl (ev_extract rfl rfl) ?_
    refine WL_q rfl (ev_assign rfl) ?_
    refine WL_q rfl (ev_assign rfl) ?_
    refine WL_nil ?_
    refine thenE_n ?_
    refine W_seq ?_
    refine W_region ?_
    refine WL_q rfl (ev_move rfl) ?_
    refine WL_m rfl (ev_call rfl (toValueOpS_spec _ _ _ _ (by assumption) (by omega) (by omega))) ?_
    rintro _ w21 ⟨b21, rfl, hb21, hb21B, hE21⟩
    have hz21 := hE21.size
    replace hE := hE.trans hE21
    replace hx := hx.ext hE21
    replace hb16B := hb16B.ext hE21
    replace hP16 := hP16.ext hE21
    have hlt21 := hb21B.lt
    have hP21 := hb21B.pairs (Nat.le_refl _)
    refine WL_q rfl (ev_assign rfl) ?_
    refine WL_nil ?_
    refine thenE_n ?_
    refine W_seq ?_
    refine W_region ?_
    refine WL_q rfl (ev_move rfl) ?_
    refine WL_m rfl (ev_call rfl (NeedsRound_spec _ _ _ _ (by assumption) (by omega) (by omega))) ?_
    rintro _ w24 ⟨rfl, hE24⟩
    have hz24 := hE24.size
    replace hE := hE.trans hE24
    replace hx := hx.ext hE24
    replace hb16B := hb16B.ext hE24
    replace hP16 := hP16.ext hE24
    replace hb21B := hb21B.ext hE24
    replace hP21 := hP21.ext hE24
    refine WL_q rfl (ev_move rfl) ?_
    refine WL_q rfl (ev_extract rfl rfl) ?_
    refine WL_q rfl (ev_extract rfl rfl) ?_
    refine WL_q rfl (ev_assign rfl) ?_
    refine WL_q rfl (ev_assign rfl) ?_
    refine WL_nil ?_
    refine thenE_n ?_
    refine W_seq ?_
    refine W_seq ?_
    refine W_region ?_
    refine WL_q rfl (ev_move rfl) ?_
    refine WL_q rfl (ev_move rfl) ?_
    refine WL_q rfl (ev_neq_b Try.underlying4 rfl rfl) ?_
    refine WL_q rfl (ev_move rfl) ?_
    refine WL_splitv (t := 30) rfl (fun hg29 => ?_) (fun hg29 => ?_)
    · refine WL_no rfl rfl hg29 rfl ?_
      refine WL_no rfl rfl hg29 rfl ?_
      refine WL_no rfl rfl hg29 rfl ?_
      refine WL_q rfl (ev_pick_t rfl hg29 rfl) ?_
      refine WL_nil ?_
      refine thenE_n ?_
      refine W_cond_t rfl ?_
      refine W_seq ?_
      refine W_region ?_
      refine WL_q rfl (ev_assign rfl) ?_
      refine WL_nil ?_
      refine thenE_n ?_
      refine W_ret ?_
      refine thenE_r ?_
      refine ret1 rfl rfl ?_
      first | exact ⟨rfl, hE⟩ | exact (bneF hg29).elim | exact (bneF hg33).elim | exact (decF hg38).elim
    · refine WL_qg rfl rfl hg29 rfl (ev_move rfl) ?_
      refine WL_qg rfl rfl hg29 rfl (ev_move rfl) ?_
      refine WL_qg rfl rfl hg29 rfl (ev_neq_b Try.underlying4 rfl rfl) ?_
      refine WL_q rfl (ev_pick_f rfl hg29 rfl) ?_
      refine WL_nil ?_
      refine thenE_n ?_
      refine W_cond rfl (fun hg33 => ?_) (fun hg33 => ?_)
      · refine W_seq ?_
        refine W_region ?_
        refine WL_q rfl (ev_assign rfl) ?_
        refine WL_nil ?_
        refine thenE_n ?_
        refine W_ret ?_
        refine thenE_r ?_
        refine ret1 rfl rfl ?_
        first | exact ⟨rfl, hE⟩ | exact (bneF hg29).elim | exact (bneF hg33).elim | exact (decF hg38).elim
      · refine W_skip ?_
        refine thenE_n ?_
        refine W_seq ?_
        refine W_seq ?_
        refine W_region ?_
        refine WL_q rfl (ev_move rfl) ?_
        refine WL_q rfl (ev_move rfl) ?_
        refine WL_m rfl (ev_call rfl (toValueOpS_spec _ _ _ _ (by assumption) (by omega) (by omega))) ?_
        rintro _ w37 ⟨b37, rfl, hb37, hb37B, hE37⟩
        have hz37 := hE37.size
        replace hE := hE.trans hE37
        replace hx := hx.ext hE37
        replace hb16B := hb16B.ext hE37
        replace hP16 := hP16.ext hE37
        replace hb21B := hb21B.ext hE37
        replace hP21 := hP21.ext hE37
        have hlt37 := hb37B.lt
        have hP37 := hb37B.pairs (Nat.le_refl _)
        refine WL_m rfl (ev_call rfl (eqValueOpS_spec _ _ _ _ _ _ _ (by assumption) (by assumption) (by omega))) ?_
        rintro _ w38 ⟨rfl, hE38⟩
        have hz38 := hE38.size
        replace hE := hE.trans hE38
        replace hx := hx.ext hE38
        replace hb16B := hb16B.ext hE38
        replace hP16 := hP16.ext hE38
        replace hb21B := hb21B.ext hE38
        replace hP21 := hP21.ext hE38
        replace hb37B := hb37B.ext hE38
        replace hP37 := hP37.ext hE38
        refine WL_q rfl (ev_not rfl) ?_
        refine WL_nil ?_
        refine thenE_n ?_
        refine W_cond rfl (fun hg39 => ?_) (fun hg39 => ?_)
        · have hg38 := not_true hg39
          refine W_seq ?_
          refine W_region ?_
          refine WL_q rfl (ev_assign rfl) ?_
          refine WL_nil ?_
          refine thenE_n ?_
          refine W_ret ?_
          refine thenE_r ?_
          refine ret1 rfl rfl ?_
          first | exact ⟨rfl, hE⟩ | exact (bneF hg29).elim | exact (bneF hg33).elim | exact (decF hg38).elim
        · have hg38 := not_false hg39
          refine W_skip ?_
          refine thenE_n ?_
          refine W_seq ?_
          refine W_region ?_
          refine WL_q rfl (ev_assign rfl) ?_
          refine WL_nil ?_
          refine thenE_n ?_
          refine W_ret ?_
          refine ret1 rfl rfl ?_
          first | exact ⟨rfl, hE⟩ | exact (bneF hg29).elim | exact (bneF hg33).elim | exact (decF hg38).elim

end Go.Proofs.Ytjhgpcbbmhdojaa
