/- Contracts of EvalValue, of the program and of the reference, and of what they call. -/
import Derived.Test.YtjnkkadbfigmpaaNeeds
import Derived.Test.YtjnkkadbfigmpaaMachine
import Derived.Test.YtjnkkadbfigmpaaNetwork
namespace Go.Proofs.Ytjnkkadbfigmpaa
open Go Go.RowKit

def clip (x : Int) : Int := max (-1000000) (min x 1000000)
def b2i (b : Bool) : Int := if b = true then 1 else 0
/-- What a node knows. -/
structure Nd where
  own : Int
  id : Int
  input : Int
  round : Int
  near : List Int
def ndV (a : Option Addr) (c : Nat) (x : Nd) : Value := .agg #[VI x.own, VI x.id, VI x.input, VI x.round, .slice a x.near.length c]
def two (k a b : Int) : Int := if k = 13 then a + b else if k = 14 then a - b else if k = 15 then min a b else if k = 16 then max a b else if k = 17 then b2i (decide (a < b)) else b2i (decide (a = b))
/-- How many meet p. -/
def cntN (p : Int → Bool) (l : List Int) (i : Nat) : Nat := (l.take i).countP p
theorem cntN_yes {p : Int → Bool} {l : List Int} {i : Nat} (h : i < l.length) (hp : p l[i] = true) : cntN p l (i + 1) = cntN p l i + 1 := by
  unfold cntN; rw [List.take_succ_eq_append_getElem h, List.countP_append]; simp [hp]
theorem cntN_no {p : Int → Bool} {l : List Int} {i : Nat} (h : i < l.length) (hp : p l[i] = false) : cntN p l (i + 1) = cntN p l i := by
  unfold cntN; rw [List.take_succ_eq_append_getElem h, List.countP_append]; simp [hp]
theorem cntN_le (p : Int → Bool) (l : List Int) (i : Nat) : cntN p l i ≤ i := by unfold cntN; exact Nat.le_trans List.countP_le_length (by simp; omega)
theorem cntN_all {p : Int → Bool} {l : List Int} {i : Nat} (h : l.length ≤ i) : cntN p l i = l.countP p := by unfold cntN; rw [List.take_of_length_le h]

set_option maxRecDepth 100000 in
theorem l1Least_spec (a b : Int) (w : World) :
    Fn Try.prog 125 #[VI a, VI b] w (fun v w' => v = VI (min a b) ∧ Ext w w') := by
  have hE := Ext.refl w
  refine Fn_of Try.func125 rfl rfl (by kernel_rfl) rfl ?_
  refine W_seq ?_
  refine W_region ?_
  refine WL_q rfl (ev_assign rfl) ?_
  refine WL_nil ?_
  refine thenE_n ?_
  refine W_seq ?_
  refine W_seq ?_
  refine W_region ?_
  refine WL_q rfl (ev_move rfl) ?_
  refine WL_q rfl (ev_move rfl) ?_
  refine WL_q rfl (ev_lss rfl rfl) ?_
  refine WL_nil ?_
  refine thenE_n ?_
  refine W_cond rfl (fun hg7 => ?_) (fun hg7 => ?_)
  · have hp7 := of_decide_eq_true hg7
    refine W_seq ?_
    refine W_region ?_
    refine WL_q rfl (ev_move rfl) ?_
    refine WL_q rfl (ev_assign rfl) ?_
    refine WL_nil ?_
    refine thenE_n ?_
    refine W_ret ?_
    refine thenE_r ?_
    refine ret1 rfl rfl ?_
    exact ⟨vi (by omega), hE⟩
  · have hp7 := of_decide_eq_false hg7
    refine W_skip ?_
    refine thenE_n ?_
    refine W_seq ?_
    refine W_region ?_
    refine WL_q rfl (ev_move rfl) ?_
    refine WL_q rfl (ev_assign rfl) ?_
    refine WL_nil ?_
    refine thenE_n ?_
    refine W_ret ?_
    refine ret1 rfl rfl ?_
    exact ⟨vi (by omega), hE⟩

set_option maxRecDepth 100000 in
theorem l1Most_spec (a b : Int) (w : World) :
    Fn Try.prog 124 #[VI a, VI b] w (fun v w' => v = VI (max a b) ∧ Ext w w') := by
  have hE := Ext.refl w
  refine Fn_of Try.func124 rfl rfl (by kernel_rfl) rfl ?_
  refine W_seq ?_
  refine W_region ?_
  refine WL_q rfl (ev_assign rfl) ?_
  refine WL_nil ?_
  refine thenE_n ?_
  refine W_seq ?_
  refine W_seq ?_
  refine W_region ?_
  refine WL_q rfl (ev_move rfl) ?_
  refine WL_q rfl (ev_move rfl) ?_
  refine WL_q rfl (ev_gtr rfl rfl) ?_
  refine WL_nil ?_
  refine thenE_n ?_
  refine W_cond rfl (fun hg7 => ?_) (fun hg7 => ?_)
  · have hp7 := of_decide_eq_true hg7
    refine W_seq ?_
    refine W_region ?_
    refine WL_q rfl (ev_move rfl) ?_
    refine WL_q rfl (ev_assign rfl) ?_
    refine WL_nil ?_
    refine thenE_n ?_
    refine W_ret ?_
    refine thenE_r ?_
    refine ret1 rfl rfl ?_
    exact ⟨vi (by omega), hE⟩
  · have hp7 := of_decide_eq_false hg7
    refine W_skip ?_
    refine thenE_n ?_
    refine W_seq ?_
    refine W_region ?_
    refine WL_q rfl (ev_move rfl) ?_
    refine WL_q rfl (ev_assign rfl) ?_
    refine WL_nil ?_
    refine thenE_n ?_
    refine W_ret ?_
    refine ret1 rfl rfl ?_
    exact ⟨vi (by omega), hE⟩

set_option maxRecDepth 100000 in
theorem vaClip_spec (x : Int) (w : World) :
    Fn Try.prog 107 #[VI x] w (fun v w' => v = VI (clip x) ∧ Ext w w') := by
  have hE := Ext.refl w
  refine Fn_of Try.func107 rfl rfl (by kernel_rfl) rfl ?_
  refine W_seq ?_
  refine W_region ?_
  refine WL_q rfl (ev_assign rfl) ?_
  refine WL_nil ?_
  refine thenE_n ?_
  refine W_seq ?_
  refine W_region ?_
  refine WL_q rfl (ev_move rfl) ?_
  refine WL_m rfl (ev_call rfl (l1Least_spec _ _ _)) ?_
  rintro _ w4 ⟨rfl, hE4⟩
  have hz4 := hE4.size
  replace hE := hE.trans hE4
  refine WL_m rfl (ev_call rfl (l1Most_spec _ _ _)) ?_
  rintro _ w5 ⟨rfl, hE5⟩
  have hz5 := hE5.size
  replace hE := hE.trans hE5
  refine WL_q rfl (ev_assign rfl) ?_
  refine WL_nil ?_
  refine thenE_n ?_
  refine W_ret ?_
  refine ret1 rfl rfl ?_
  exact ⟨rfl, hE⟩

set_option maxRecDepth 100000 in
theorem vaIs_spec (b : Bool) (w : World) :
    Fn Try.prog 126 #[VB b] w (fun v w' => v = VI (b2i b) ∧ Ext w w') := by
  have hE := Ext.refl w
  refine Fn_of Try.func126 rfl rfl (by kernel_rfl) rfl ?_
  refine W_seq ?_
  refine W_region ?_
  refine WL_q rfl (ev_assign rfl) ?_
  refine WL_nil ?_
  refine thenE_n ?_
  refine W_seq ?_
  refine W_seq ?_
  refine W_region ?_
  refine WL_q rfl (ev_move rfl) ?_
  refine WL_nil ?_
  refine thenE_n ?_
  refine W_cond rfl (fun hgc3 => ?_) (fun hgc3 => ?_)
  · refine W_seq ?_
    refine W_region ?_
    refine WL_q rfl (ev_assign rfl) ?_
    refine WL_nil ?_
    refine thenE_n ?_
    refine W_ret ?_
    refine thenE_r ?_
    refine ret1 rfl rfl ?_
    first | exact ⟨by simp [b2i, hgc3], hE⟩ | exact ⟨by simp [b2i, hg3], hE⟩
  · refine W_skip ?_
    refine thenE_n ?_
    refine W_seq ?_
    refine W_region ?_
    refine WL_q rfl (ev_assign rfl) ?_
    refine WL_nil ?_
    refine thenE_n ?_
    refine W_ret ?_
    refine ret1 rfl rfl ?_
    first | exact ⟨by simp [b2i, hgc3], hE⟩ | exact ⟨by simp [b2i, hg3], hE⟩

set_option maxRecDepth 100000 in
theorem oneIf_spec (b : Bool) (w : World) :
    Fn Try.prog 131 #[VB b] w (fun v w' => v = VI (b2i b) ∧ Ext w w') := by
  have hE := Ext.refl w
  refine Fn_of Try.func131 rfl rfl (by kernel_rfl) rfl ?_
  refine W_seq ?_
  refine W_region ?_
  refine WL_q rfl (ev_assign rfl) ?_
  refine WL_nil ?_
  refine thenE_n ?_
  refine W_seq ?_
  refine W_seq ?_
  refine W_region ?_
  refine WL_q rfl (ev_move rfl) ?_
  refine WL_nil ?_
  refine thenE_n ?_
  refine W_cond rfl (fun hgc3 => ?_) (fun hgc3 => ?_)
  · refine W_seq ?_
    refine W_region ?_
    refine WL_q rfl (ev_assign rfl) ?_
    refine WL_nil ?_
    refine thenE_n ?_
    refine W_ret ?_
    refine thenE_r ?_
    refine ret1 rfl rfl ?_
    first | exact ⟨by simp [b2i, hgc3], hE⟩ | exact ⟨by simp [b2i, hg3], hE⟩
  · refine W_skip ?_
    refine thenE_n ?_
    refine W_seq ?_
    refine W_region ?_
    refine WL_q rfl (ev_assign rfl) ?_
    refine WL_nil ?_
    refine thenE_n ?_
    refine W_ret ?_
    refine ret1 rfl rfl ?_
    first | exact ⟨by simp [b2i, hgc3], hE⟩ | exact ⟨by simp [b2i, hg3], hE⟩

set_option maxRecDepth 100000 in
theorem vaTwo_spec (k a b : Int) (w : World) (ha : -1000000 ≤ a ∧ a ≤ 1000000) (hb : -1000000 ≤ b ∧ b ≤ 1000000) :
    Fn Try.prog 106 #[VI k, VI a, VI b] w (fun v w' => v = VI (two k a b) ∧ Ext w w') := by
  have hE := Ext.refl w
  refine Fn_of Try.func106 rfl rfl (by kernel_rfl) rfl ?_
  refine W_seq ?_
  refine W_region ?_
  refine WL_q rfl (ev_assign rfl) ?_
  refine WL_nil ?_
  refine thenE_n ?_
  refine W_seq ?_
  refine W_seq ?_
  refine W_region ?_
  refine WL_q rfl (ev_move rfl) ?_
  refine WL_nil ?_
  refine thenE_n ?_
  refine W_block ?_
  refine W_seq ?_
  refine W_region ?_
  refine WL_q rfl (ev_eql rfl rfl) ?_
  refine WL_q rfl (ev_assign rfl) ?_
  refine WL_nil ?_
  refine thenE_n ?_
  refine W_cond rfl (fun hg9 => ?_) (fun hg9 => ?_)
  · have hp9 := of_decide_eq_true hg9
    refine W_seq ?_
    refine W_region ?_
    refine WL_q rfl (ev_move rfl) ?_
    refine WL_q rfl (ev_move rfl) ?_
    refine WL_q rfl (ev_add rfl rfl (by omega)) ?_
    refine WL_q rfl (ev_assign rfl) ?_
    refine WL_nil ?_
    refine thenE_n ?_
    refine W_ret ?_
    refine blockE_r ?_
    refine thenE_r ?_
    refine ret1 rfl rfl ?_
    refine ⟨vi ?_, hE⟩; simp_all [two]
  · have hp9 := of_decide_eq_false hg9
    refine W_seq ?_
    refine W_region ?_
    refine WL_q rfl (ev_eql rfl rfl) ?_
    refine WL_q rfl (ev_assign rfl) ?_
    refine WL_nil ?_
    refine thenE_n ?_
    refine W_cond rfl (fun hg14 => ?_) (fun hg14 => ?_)
    · have hp14 := of_decide_eq_true hg14
      refine W_seq ?_
      refine W_region ?_
      refine WL_q rfl (ev_move rfl) ?_
      refine WL_q rfl (ev_move rfl) ?_
      refine WL_q rfl (ev_sub rfl rfl (by omega)) ?_
      refine WL_q rfl (ev_assign rfl) ?_
      refine WL_nil ?_
      refine thenE_n ?_
      refine W_ret ?_
      refine blockE_r ?_
      refine thenE_r ?_
      refine ret1 rfl rfl ?_
      refine ⟨vi ?_, hE⟩; simp_all [two]
    · have hp14 := of_decide_eq_false hg14
      refine W_seq ?_
      refine W_region ?_
      refine WL_q rfl (ev_eql rfl rfl) ?_
      refine WL_q rfl (ev_assign rfl) ?_
      refine WL_nil ?_
      refine thenE_n ?_
      refine W_cond rfl (fun hg19 => ?_) (fun hg19 => ?_)
      · have hp19 := of_decide_eq_true hg19
        refine W_seq ?_
        refine W_region ?_
        refine WL_q rfl (ev_move rfl) ?_
        refine WL_q rfl (ev_move rfl) ?_
        refine WL_m rfl (ev_call rfl (l1Least_spec _ _ _)) ?_
        rintro _ w22 ⟨rfl, hE22⟩
        have hz22 := hE22.size
        replace hE := hE.trans hE22
        refine WL_q rfl (ev_assign rfl) ?_
        refine WL_nil ?_
        refine thenE_n ?_
        refine W_ret ?_
        refine blockE_r ?_
        refine thenE_r ?_
        refine ret1 rfl rfl ?_
        refine ⟨vi ?_, hE⟩; simp_all [two]
      · have hp19 := of_decide_eq_false hg19
        refine W_seq ?_
        refine W_region ?_
        refine WL_q rfl (ev_eql rfl rfl) ?_
        refine WL_q rfl (ev_assign rfl) ?_
        refine WL_nil ?_
        refine thenE_n ?_
        refine W_cond rfl (fun hg24 => ?_) (fun hg24 => ?_)
        · have hp24 := of_decide_eq_true hg24
          refine W_seq ?_
          refine W_region ?_
          refine WL_q rfl (ev_move rfl) ?_
          refine WL_q rfl (ev_move rfl) ?_
          refine WL_m rfl (ev_call rfl (l1Most_spec _ _ _)) ?_
          rintro _ w27 ⟨rfl, hE27⟩
          have hz27 := hE27.size
          replace hE := hE.trans hE27
          refine WL_q rfl (ev_assign rfl) ?_
          refine WL_nil ?_
          refine thenE_n ?_
          refine W_ret ?_
          refine blockE_r ?_
          refine thenE_r ?_
          refine ret1 rfl rfl ?_
          refine ⟨vi ?_, hE⟩; simp_all [two]
        · have hp24 := of_decide_eq_false hg24
          refine W_seq ?_
          refine W_region ?_
          refine WL_q rfl (ev_eql rfl rfl) ?_
          refine WL_q rfl (ev_assign rfl) ?_
          refine WL_nil ?_
          refine thenE_n ?_
          refine W_cond rfl (fun hg29 => ?_) (fun hg29 => ?_)
          · have hp29 := of_decide_eq_true hg29
            refine W_seq ?_
            refine W_region ?_
            refine WL_q rfl (ev_move rfl) ?_
            refine WL_q rfl (ev_move rfl) ?_
            refine WL_q rfl (ev_lss rfl rfl) ?_
            refine WL_m rfl (ev_call rfl (vaIs_spec _ _)) ?_
            rintro _ w33 ⟨rfl, hE33⟩
            have hz33 := hE33.size
            replace hE := hE.trans hE33
            refine WL_q rfl (ev_assign rfl) ?_
            refine WL_nil ?_
            refine thenE_n ?_
            refine W_ret ?_
            refine blockE_r ?_
            refine thenE_r ?_
            refine ret1 rfl rfl ?_
            refine ⟨vi ?_, hE⟩; simp_all [two]
          · have hp29 := of_decide_eq_false hg29
            refine W_skip ?_
            refine blockE_n ?_
            refine thenE_n ?_
            refine W_seq ?_
            refine W_region ?_
            refine WL_q rfl (ev_move rfl) ?_
            refine WL_q rfl (ev_move rfl) ?_
            refine WL_q rfl (ev_eql rfl rfl) ?_
            refine WL_m rfl (ev_call rfl (vaIs_spec _ _)) ?_
            rintro _ w37 ⟨rfl, hE37⟩
            have hz37 := hE37.size
            replace hE := hE.trans hE37
            refine WL_q rfl (ev_assign rfl) ?_
            refine WL_nil ?_
            refine thenE_n ?_
            refine W_ret ?_
            refine ret1 rfl rfl ?_
            refine ⟨vi ?_, hE⟩; simp_all [two]

set_option maxRecDepth 100000 in
theorem vaCount_spec {l r : Nat} (a : Option Addr) (c : Nat) (x : Nd) (lo hi : Int) (w : World) (hx : Ints l r w a c x.near) (hm : x.near.length ≤ 6) :
    Fn Try.prog 105 #[ndV a c x, VI lo, VI hi] w (fun v w' => v = VI ((x.near.countP fun y => decide (lo ≤ y) && decide (y < hi)) : Nat) ∧ Ext w w') := by
  have hE := Ext.refl w
  refine Fn_of Try.func105 rfl rfl (by kernel_rfl) rfl ?_
  refine W_seq ?_
  refine W_region ?_
  refine WL_m rfl (ev_box rfl) ?_
  rintro _ w3 ⟨rfl, hN3⟩
  have hz3 := hN3.size
  replace hE := hE.trans hN3.ext
  replace hx := hx.ext hN3.ext
  have hB3 : Blk w3 _ _ [_, _, _, _, _] := hN3.blk
  refine WL_q rfl (ev_assign rfl) ?_
  refine WL_nil ?_
  refine thenE_n ?_
  refine W_seq ?_
  refine W_region ?_
  refine WL_q rfl (ev_assign rfl) ?_
  refine WL_nil ?_
  refine thenE_n ?_
  refine W_seq ?_
  refine W_seq ?_
  refine W_region ?_
  refine WL_q rfl (ev_fieldAddr fo90_4 rfl) ?_
  refine WL_q rfl (ev_load one23 rfl (hB3.cell rfl)) ?_
  refine WL_q rfl (ev_len Try.underlying23 rfl) ?_
  refine WL_q rfl (ev_move rfl) ?_
  refine WL_nil ?_
  refine thenE_n ?_
  refine W_block ?_
  refine W_loopC (G := Nat) [(1, _), (2, _), (11, _), (12, _)] ((Subs.c rfl (Subs.c rfl (Subs.c rfl (Subs.c rfl Subs.n))))) (fun i => [(7, VI (cntN (fun y => decide (lo ≤ y) && decide (y < hi)) x.near i : Nat)), (13, VI (i : Int))]) (fun i w' => Ext w3 w' ∧ i ≤ x.near.length) (fun i => x.near.length - i) 0 ((Subs.c (lkI rfl (by simp [cntN])) (Subs.c (lkI rfl (by omega)) Subs.n))) (⟨Ext.refl _, Nat.zero_le _⟩) ?_
  rintro i wL0 ⟨hRL0, hi'⟩
  have hzL0 := hRL0.size
  replace hE := hE.trans hRL0
  replace hx := hx.ext hRL0
  replace hB3 := hB3.ext hRL0
  refine W_seq ?_
  refine W_region ?_
  refine WL_q rfl (ev_lss rfl rfl) ?_
  refine WL_nil ?_
  refine thenE_n ?_
  refine W_seq ?_
  refine W_cond rfl (fun hg14 => ?_) (fun hg14 => ?_)
  · have hp14 := of_decide_eq_true hg14
    refine W_skip ?_
    refine thenE_n ?_
    refine W_seq ?_
    refine W_block ?_
    refine W_seq ?_
    refine W_region ?_
    have hlt : i < x.near.length := by omega
    have hcl := cntN_le (fun y => decide (lo ≤ y) && decide (y < hi)) x.near i
    refine WL_q rfl (ev_indexAddr Try.underlying23 sz3 rfl rfl (hx.isSome (by omega)) (by omega) (by omega)) ?_
    refine WL_q rfl (ev_load one3 rfl (hx.cell (i := i) (by omega))) ?_
    refine WL_q rfl (ev_assign rfl) ?_
    refine WL_nil ?_
    refine thenE_n ?_
    refine W_seq ?_
    refine W_region ?_
    refine WL_q rfl (ev_move rfl) ?_
    refine WL_q rfl (ev_move rfl) ?_
    refine WL_q rfl (ev_geq rfl rfl) ?_
    refine WL_q rfl (ev_move rfl) ?_
    refine WL_splitv (t := 20) rfl (fun hg19 => ?_) (fun hg19 => ?_)
    · have hp19 := of_decide_eq_true hg19
      refine WL_qg rfl rfl hg19 rfl (ev_move rfl) ?_
      refine WL_qg rfl rfl hg19 rfl (ev_move rfl) ?_
      refine WL_qg rfl rfl hg19 rfl (ev_lss rfl rfl) ?_
      refine WL_q rfl (ev_pick_t rfl hg19 rfl) ?_
      refine WL_nil ?_
      refine thenE_n ?_
      refine W_cond rfl (fun hg23 => ?_) (fun hg23 => ?_)
      · have hp23 := of_decide_eq_true hg23
        refine W_region ?_
        refine WL_q rfl (ev_move rfl) ?_
        refine WL_q rfl (ev_add rfl rfl (by omega)) ?_
        refine WL_q rfl (ev_assign rfl) ?_
        refine WL_nil ?_
        refine blockE_n ?_
        refine thenE_n ?_
        refine W_region ?_
        refine WL_q rfl (ev_add rfl rfl (by omega)) ?_
        refine WL_q rfl (ev_move rfl) ?_
        refine WL_nil ?_
        refine thenE_n ?_
        exact ⟨i + 1, (Subs.c rfl (Subs.c rfl (Subs.c rfl (Subs.c rfl Subs.n)))), (Subs.c (lkI rfl (by rw [cntN_yes hlt (by simp; omega)]; omega)) (Subs.c (lkI rfl (by omega)) Subs.n)), ⟨hRL0, by omega⟩, by first | omega | (dsimp only; omega)⟩
      · have hp23 := of_decide_eq_false hg23
        refine W_skip ?_
        refine blockE_n ?_
        refine thenE_n ?_
        refine W_region ?_
        refine WL_q rfl (ev_add rfl rfl (by omega)) ?_
        refine WL_q rfl (ev_move rfl) ?_
        refine WL_nil ?_
        refine thenE_n ?_
        exact ⟨i + 1, (Subs.c rfl (Subs.c rfl (Subs.c rfl (Subs.c rfl Subs.n)))), (Subs.c (lkI rfl (by rw [cntN_no hlt (by simp; omega)])) (Subs.c (lkI rfl (by omega)) Subs.n)), ⟨hRL0, by omega⟩, by first | omega | (dsimp only; omega)⟩
    · have hp19 := of_decide_eq_false hg19
      refine WL_no rfl rfl hg19 rfl ?_
      refine WL_no rfl rfl hg19 rfl ?_
      refine WL_no rfl rfl hg19 rfl ?_
      refine WL_q rfl (ev_pick_f rfl hg19 rfl) ?_
      refine WL_nil ?_
      refine thenE_n ?_
      refine W_cond_f rfl ?_
      refine W_skip ?_
      refine blockE_n ?_
      refine thenE_n ?_
      refine W_region ?_
      refine WL_q rfl (ev_add rfl rfl (by omega)) ?_
      refine WL_q rfl (ev_move rfl) ?_
      refine WL_nil ?_
      refine thenE_n ?_
      exact ⟨i + 1, (Subs.c rfl (Subs.c rfl (Subs.c rfl (Subs.c rfl Subs.n)))), (Subs.c (lkI rfl (by rw [cntN_no hlt (by simp; omega)])) (Subs.c (lkI rfl (by omega)) Subs.n)), ⟨hRL0, by omega⟩, by first | omega | (dsimp only; omega)⟩
  · have hp14 := of_decide_eq_false hg14
    refine W_exit ?_
    refine thenE_x ?_
    refine thenE_x ?_
    refine blockE_hit ?_
    refine thenE_n ?_
    refine W_seq ?_
    refine W_region ?_
    refine WL_q rfl (ev_move rfl) ?_
    refine WL_q rfl (ev_assign rfl) ?_
    refine WL_nil ?_
    refine thenE_n ?_
    refine W_ret ?_
    refine ret1 rfl rfl ?_
    exact ⟨vi (by rw [cntN_all (by omega)]), hE⟩

set_option maxRecDepth 100000 in
theorem countIf_spec {l r : Nat} (a : Option Addr) (c : Nat) (x : Nd) (f : FuncId) (cap : List Value) (p : Int → Bool) (w : World) (hx : Ints l r w a c x.near) (hm : x.near.length ≤ 6) (hp : ∀ i (h : i < x.near.length) (w1 : World), Ext w w1 → Fn Try.prog f ([] ++ [VI x.near[i]] ++ cap).toArray w1 (fun v w2 => v = VB (p x.near[i]) ∧ Ext w1 w2)) :
    Fn Try.prog 128 #[ndV a c x, .func (.func f) #[] cap.toArray] w (fun v w' => v = VI ((x.near.countP p) : Nat) ∧ Ext w w') := by
  have hE := Ext.refl w
  refine Fn_of Try.func128 rfl rfl (by kernel_rfl) rfl ?_
  refine W_seq ?_
  refine W_region ?_
  refine WL_m rfl (ev_box rfl) ?_
  rintro _ w2 ⟨rfl, hN2⟩
  have hz2 := hN2.size
  replace hE := hE.trans hN2.ext
  replace hx := hx.ext hN2.ext
  have hB2 : Blk w2 _ _ [_, _, _, _, _] := hN2.blk
  refine WL_q rfl (ev_assign rfl) ?_
  refine WL_nil ?_
  refine thenE_n ?_
  refine W_seq ?_
  refine W_region ?_
  refine WL_q rfl (ev_assign rfl) ?_
  refine WL_nil ?_
  refine thenE_n ?_
  refine W_seq ?_
  refine W_seq ?_
  refine W_region ?_
  refine WL_q rfl (ev_fieldAddr fo97_4 rfl) ?_
  refine WL_q rfl (ev_load one23 rfl (hB2.cell rfl)) ?_
  refine WL_q rfl (ev_len Try.underlying23 rfl) ?_
  refine WL_q rfl (ev_move rfl) ?_
  refine WL_nil ?_
  refine thenE_n ?_
  refine W_block ?_
  refine W_loopC (G := Nat) [(1, _), (9, _), (10, _)] ((Subs.c rfl (Subs.c rfl (Subs.c rfl Subs.n)))) (fun i => [(5, VI (cntN p x.near i : Nat)), (11, VI (i : Int))]) (fun i w' => Ext w2 w' ∧ i ≤ x.near.length) (fun i => x.near.length - i) 0 ((Subs.c (lkI rfl (by simp [cntN])) (Subs.c (lkI rfl (by omega)) Subs.n))) (⟨Ext.refl _, Nat.zero_le _⟩) ?_
  rintro i wL0 ⟨hRL0, hi'⟩
  have hzL0 := hRL0.size
  replace hE := hE.trans hRL0
  replace hx := hx.ext hRL0
  replace hB2 := hB2.ext hRL0
  refine W_seq ?_
  refine W_region ?_
  refine WL_q rfl (ev_lss rfl rfl) ?_
  refine WL_nil ?_
  refine thenE_n ?_
  refine W_seq ?_
  refine W_cond rfl (fun hg12 => ?_) (fun hg12 => ?_)
  · have hp12 := of_decide_eq_true hg12
    refine W_skip ?_
    refine thenE_n ?_
    refine W_seq ?_
    refine W_block ?_
    refine W_seq ?_
    refine W_region ?_
    have hlt : i < x.near.length := by omega
    have hcl := cntN_le p x.near i
    refine WL_q rfl (ev_indexAddr Try.underlying23 sz3 rfl rfl (hx.isSome (by omega)) (by omega) (by omega)) ?_
    refine WL_q rfl (ev_load one3 rfl (hx.cell (i := i) (by omega))) ?_
    refine WL_q rfl (ev_assign rfl) ?_
    refine WL_nil ?_
    refine thenE_n ?_
    refine W_seq ?_
    refine W_region ?_
    refine WL_q rfl (ev_move rfl) ?_
    refine WL_q rfl (ev_move rfl) ?_
    refine WL_m rfl (ev_callv rfl rfl (hp i hlt _ hE)) ?_
    rintro _ w17 ⟨rfl, hE17⟩
    have hz17 := hE17.size
    replace hE := hE.trans hE17
    replace hRL0 := hRL0.trans hE17
    replace hx := hx.ext hE17
    replace hB2 := hB2.ext hE17
    refine WL_nil ?_
    refine thenE_n ?_
    refine W_cond rfl (fun hg17 => ?_) (fun hg17 => ?_)
    · refine W_region ?_
      refine WL_q rfl (ev_move rfl) ?_
      refine WL_q rfl (ev_add rfl rfl (by omega)) ?_
      refine WL_q rfl (ev_assign rfl) ?_
      refine WL_nil ?_
      refine blockE_n ?_
      refine thenE_n ?_
      refine W_region ?_
      refine WL_q rfl (ev_add rfl rfl (by omega)) ?_
      refine WL_q rfl (ev_move rfl) ?_
      refine WL_nil ?_
      refine thenE_n ?_
      exact ⟨i + 1, (Subs.c rfl (Subs.c rfl (Subs.c rfl Subs.n))), (Subs.c (lkI rfl (by rw [cntN_yes hlt hg17]; omega)) (Subs.c (lkI rfl (by omega)) Subs.n)), ⟨hRL0, by omega⟩, by first | omega | (dsimp only; omega)⟩
    · refine W_skip ?_
      refine blockE_n ?_
      refine thenE_n ?_
      refine W_region ?_
      refine WL_q rfl (ev_add rfl rfl (by omega)) ?_
      refine WL_q rfl (ev_move rfl) ?_
      refine WL_nil ?_
      refine thenE_n ?_
      exact ⟨i + 1, (Subs.c rfl (Subs.c rfl (Subs.c rfl Subs.n))), (Subs.c (lkI rfl (by rw [cntN_no hlt hg17])) (Subs.c (lkI rfl (by omega)) Subs.n)), ⟨hRL0, by omega⟩, by first | omega | (dsimp only; omega)⟩
  · have hp12 := of_decide_eq_false hg12
    refine W_exit ?_
    refine thenE_x ?_
    refine thenE_x ?_
    refine blockE_hit ?_
    refine thenE_n ?_
    refine W_seq ?_
    refine W_region ?_
    refine WL_q rfl (ev_move rfl) ?_
    refine WL_q rfl (ev_assign rfl) ?_
    refine WL_nil ?_
    refine thenE_n ?_
    refine W_ret ?_
    refine ret1 rfl rfl ?_
    exact ⟨vi (by rw [cntN_all (by omega)]), hE⟩

set_option maxRecDepth 100000 in
theorem result_1 {lo hi : Nat} (x : Int) (a : Option Addr) (n c b : Nat) (T : TypeId) (ts : List Int) (w : World) (hB : Blk w b T [.slice a n c]) (hn : n = ts.length) (ht : Ints lo hi w a c ts) (h0 : 0 < ts.length) :
    Fn Try.prog 129 #[VI x, ptr b 0] w (fun v w' => v = VB (decide (x = ts.headD 0)) ∧ Ext w w') := by
  subst hn
  have hE := Ext.refl w
  refine Fn_of Try.func129 rfl rfl (by kernel_rfl) rfl ?_
  refine W_seq ?_
  refine W_region ?_
  refine WL_q rfl (ev_assign rfl) ?_
  refine WL_nil ?_
  refine thenE_n ?_
  refine W_seq ?_
  refine W_region ?_
  refine WL_q rfl (ev_move rfl) ?_
  refine WL_q rfl (ev_load one23 rfl (hB.cell rfl)) ?_
  refine WL_q rfl (ev_indexAddr Try.underlying23 sz3 rfl rfl (ht.isSome (by omega)) (by omega) (by omega)) ?_
  refine WL_q rfl (ev_load one3 rfl (ht.cell (i := 0) (by omega))) ?_
  refine WL_q rfl (ev_eql rfl rfl) ?_
  refine WL_q rfl (ev_assign rfl) ?_
  refine WL_nil ?_
  refine thenE_n ?_
  refine W_ret ?_
  refine ret1 rfl rfl ?_
  refine ⟨?_, hE⟩; cases ts with | nil => simp at h0 | cons y r => rfl

set_option maxRecDepth 100000 in
theorem result_2 {lo hi : Nat} (x : Int) (a : Option Addr) (n c b : Nat) (T : TypeId) (ts : List Int) (w : World) (hB : Blk w b T [.slice a n c]) (hn : n = ts.length) (ht : Ints lo hi w a c ts) (h0 : 0 < ts.length) :
    Fn Try.prog 130 #[VI x, ptr b 0] w (fun v w' => v = VB (decide (x < ts.headD 0)) ∧ Ext w w') := by
  subst hn
  have hE := Ext.refl w
  refine Fn_of Try.func130 rfl rfl (by kernel_rfl) rfl ?_
  refine W_seq ?_
  refine W_region ?_
  refine WL_q rfl (ev_assign rfl) ?_
  refine WL_nil ?_
  refine thenE_n ?_
  refine W_seq ?_
  refine W_region ?_
  refine WL_q rfl (ev_move rfl) ?_
  refine WL_q rfl (ev_load one23 rfl (hB.cell rfl)) ?_
  refine WL_q rfl (ev_indexAddr Try.underlying23 sz3 rfl rfl (ht.isSome (by omega)) (by omega) (by omega)) ?_
  refine WL_q rfl (ev_load one3 rfl (ht.cell (i := 0) (by omega))) ?_
  refine WL_q rfl (ev_lss rfl rfl) ?_
  refine WL_q rfl (ev_assign rfl) ?_
  refine WL_nil ?_
  refine thenE_n ?_
  refine W_ret ?_
  refine ret1 rfl rfl ?_
  refine ⟨?_, hE⟩; cases ts with | nil => simp at h0 | cons y r => rfl

def idx (x : Int) (l : List Int) : Int := idxF (fun y => decide (x = y)) l
theorem idx_mem {x : Int} {l : List Int} : (0 ≤ idx x l) ↔ x ∈ l := by
  have h := idxF_any (p := fun y => decide (x = y)) (xs := l)
  have h2 : (l.any fun y => decide (x = y)) = decide (x ∈ l) := by
    rw [Bool.eq_iff_iff]; simp [List.any_eq_true]
  rw [h2] at h
  exact decide_eq_decide.1 h
def lmin : List Int → Int → Int
  | [], d => d
  | x :: r, _ => r.foldl min x
def lmax : List Int → Int → Int
  | [], d => d
  | x :: r, _ => r.foldl max x
/-- The least that is not there. -/
def IsFree (l : List Int) (n : Int) : Prop := 0 ≤ n ∧ n ∉ l ∧ ∀ j, 0 ≤ j → j < n → j ∈ l
theorem IsFree.det {l : List Int} {n k : Int} (h : IsFree l n) (q : IsFree l k) : n = k := by
  rcases Int.lt_trichotomy n k with h1 | h1 | h1
  · exact absurd (q.2.2 n h.1 h1) h.2.1
  · exact h1
  · exact absurd (h.2.2 k q.1 h1) q.2.1

set_option maxRecDepth 100000 in
theorem Index_spec {lo hi : Nat} (a : Option Addr) (c : Nat) (xs : List Int) (x : Int) (w : World) (hx : Ints lo hi w a c xs) (hm : (xs.length : Int) < 9223372036854775807) :
    Fn Try.prog 119 #[.slice a xs.length c, VI x] w (fun v w' => v = VI (idx x xs) ∧ Ext w w') := by
  have hE := Ext.refl w
  refine Fn_of Try.func119 rfl rfl (by kernel_rfl) rfl ?_
  refine W_seq ?_
  refine W_region ?_
  refine WL_q rfl (ev_assign rfl) ?_
  refine WL_nil ?_
  refine thenE_n ?_
  refine W_seq ?_
  refine W_seq ?_
  refine W_region ?_
  refine WL_q rfl (ev_move rfl) ?_
  refine WL_q rfl (ev_len Try.underlying23 rfl) ?_
  refine WL_q rfl (ev_move rfl) ?_
  refine WL_nil ?_
  refine thenE_n ?_
  refine W_block ?_
  refine W_loopC (G := Nat) [(0, _), (1, _), (7, _)] ((Subs.c rfl (Subs.c rfl (Subs.c rfl Subs.n)))) (fun i => [(8, VI (i : Int))]) (fun i w' => Ext w w' ∧ i ≤ xs.length ∧ ∀ j (_h : j < i) (h2 : j < xs.length), decide (x = xs[j]) = false) (fun i => xs.length - i) 0 ((Subs.c (lkI rfl (by omega)) Subs.n)) (⟨Ext.refl _, ⟨by omega, fun j h => by omega⟩⟩) ?_
  rintro i wL0 ⟨hRL0, hi', hJ⟩
  have hzL0 := hRL0.size
  replace hE := hE.trans hRL0
  replace hx := hx.ext hRL0
  refine W_seq ?_
  refine W_region ?_
  refine WL_q rfl (ev_lss rfl rfl) ?_
  refine WL_nil ?_
  refine thenE_n ?_
  refine W_seq ?_
  refine W_cond rfl (fun hg9 => ?_) (fun hg9 => ?_)
  · have hp9 := of_decide_eq_true hg9
    refine W_skip ?_
    refine thenE_n ?_
    refine W_seq ?_
    refine W_block ?_
    refine W_seq ?_
    refine W_region ?_
    refine WL_q rfl (ev_move rfl) ?_
    refine WL_q rfl (ev_assign rfl) ?_
    refine WL_nil ?_
    refine thenE_n ?_
    refine W_seq ?_
    refine W_region ?_
    refine WL_q rfl (ev_move rfl) ?_
    refine WL_q rfl (ev_move rfl) ?_
    refine WL_q rfl (ev_move rfl) ?_
    refine WL_q rfl (ev_indexAddr Try.underlying23 sz3 rfl rfl (hx.isSome (by omega)) (by omega) (by omega)) ?_
    refine WL_q rfl (ev_load one3 rfl (hx.cell (i := i) (by omega))) ?_
    refine WL_q rfl (ev_eql rfl rfl) ?_
    refine WL_nil ?_
    refine thenE_n ?_
    refine W_cond rfl (fun hg16 => ?_) (fun hg16 => ?_)
    · have hp16 := of_decide_eq_true hg16
      refine W_seq ?_
      refine W_region ?_
      refine WL_q rfl (ev_move rfl) ?_
      refine WL_q rfl (ev_assign rfl) ?_
      refine WL_nil ?_
      refine thenE_n ?_
      refine W_ret ?_
      refine blockE_r ?_
      refine thenE_r ?_
      refine thenE_r ?_
      refine blockE_r ?_
      refine thenE_r ?_
      refine ret1 rfl rfl ?_
      first | exact ⟨vi (idxF_at (p := fun y => decide (x = y)) (by omega) hg16 hJ).symm, hE⟩ | exact ⟨vi (idxF_none (p := fun y => decide (x = y)) fun j h2 => hJ j (by omega) h2).symm, hE⟩
    · have hp16 := of_decide_eq_false hg16
      refine W_skip ?_
      refine blockE_n ?_
      refine thenE_n ?_
      refine W_region ?_
      refine WL_q rfl (ev_add rfl rfl (by omega)) ?_
      refine WL_q rfl (ev_move rfl) ?_
      refine WL_nil ?_
      refine thenE_n ?_
      exact ⟨i + 1, (Subs.c rfl (Subs.c rfl (Subs.c rfl Subs.n))), (Subs.c (lkI rfl (by omega)) Subs.n), ⟨hRL0, ⟨by omega, dsucc (P := fun j h2 => decide (x = xs[j]) = false) hJ (by omega) hg16⟩⟩, by first | omega | (dsimp only; omega)⟩
  · have hp9 := of_decide_eq_false hg9
    refine W_exit ?_
    refine thenE_x ?_
    refine thenE_x ?_
    refine blockE_hit ?_
    refine thenE_n ?_
    refine W_seq ?_
    refine W_region ?_
    refine WL_q rfl (ev_assign rfl) ?_
    refine WL_nil ?_
    refine thenE_n ?_
    refine W_ret ?_
    refine ret1 rfl rfl ?_
    first | exact ⟨vi (idxF_at (p := fun y => decide (x = y)) (by omega) hg16 hJ).symm, hE⟩ | exact ⟨vi (idxF_none (p := fun y => decide (x = y)) fun j h2 => hJ j (by omega) h2).symm, hE⟩

set_option maxRecDepth 100000 in
theorem Contains_spec {lo hi : Nat} (a : Option Addr) (c : Nat) (xs : List Int) (x : Int) (w : World) (hx : Ints lo hi w a c xs) (hm : (xs.length : Int) < 9223372036854775807) :
    Fn Try.prog 95 #[.slice a xs.length c, VI x] w (fun v w' => ∃ b, v = VB b ∧ (b = true ↔ x ∈ xs) ∧ Ext w w') := by
  have hE := Ext.refl w
  refine Fn_of Try.func95 rfl rfl (by kernel_rfl) rfl ?_
  refine W_seq ?_
  refine W_region ?_
  refine WL_q rfl (ev_assign rfl) ?_
  refine WL_nil ?_
  refine thenE_n ?_
  refine W_seq ?_
  refine W_region ?_
  refine WL_q rfl (ev_move rfl) ?_
  refine WL_q rfl (ev_move rfl) ?_
  refine WL_m rfl (ev_call rfl (Index_spec _ _ xs _ _ hx (by omega))) ?_
  rintro _ w7 ⟨rfl, hE7⟩
  have hz7 := hE7.size
  replace hE := hE.trans hE7
  replace hx := hx.ext hE7
  refine WL_q rfl (ev_geq rfl rfl) ?_
  refine WL_q rfl (ev_assign rfl) ?_
  refine WL_nil ?_
  refine thenE_n ?_
  refine W_ret ?_
  refine ret1 rfl rfl ?_
  exact ⟨_, rfl, ⟨fun h => idx_mem.1 (of_decide_eq_true h), fun h => decide_eq_true (idx_mem.2 h)⟩, hE⟩

theorem foldl_snoc {f : Int → Int → Int} {r : List Int} {x y : Int} : (r ++ [y]).foldl f x = f (r.foldl f x) y := by simp
theorem lmin_one {l : List Int} {d : Int} (h : 0 < l.length) : lmin (l.take 1) d = l[0] := by cases l with | nil => simp at h | cons x r => rfl
theorem lmax_one {l : List Int} {d : Int} (h : 0 < l.length) : lmax (l.take 1) d = l[0] := by cases l with | nil => simp at h | cons x r => rfl
theorem lmin_succ {l : List Int} {i : Nat} {d : Int} (h : i < l.length) (h0 : 0 < i) : lmin (l.take (i + 1)) d = min (lmin (l.take i) d) l[i] := by
  cases l with
  | nil => simp at h
  | cons x r =>
    cases i with
    | zero => omega
    | succ k =>
      have hk : k < r.length := by simpa using h
      show (r.take (k + 1)).foldl min x = _
      rw [List.take_succ_eq_append_getElem hk, foldl_snoc]
      rfl
theorem lmax_succ {l : List Int} {i : Nat} {d : Int} (h : i < l.length) (h0 : 0 < i) : lmax (l.take (i + 1)) d = max (lmax (l.take i) d) l[i] := by
  cases l with
  | nil => simp at h
  | cons x r =>
    cases i with
    | zero => omega
    | succ k =>
      have hk : k < r.length := by simpa using h
      show (r.take (k + 1)).foldl max x = _
      rw [List.take_succ_eq_append_getElem hk, foldl_snoc]
      rfl
theorem lmin_d {l : List Int} {d e : Int} (h : 0 < l.length) : lmin l d = lmin l e := by cases l with | nil => simp at h | cons x r => rfl
theorem lmax_d {l : List Int} {d e : Int} (h : 0 < l.length) : lmax l d = lmax l e := by cases l with | nil => simp at h | cons x r => rfl
theorem pig : ∀ {n : Nat} {l : List Int}, (∀ j : Nat, j < n → (j : Int) ∈ l) → n ≤ l.length := by
  intro n
  induction n with
  | zero => intro l _; omega
  | succ n ih =>
    intro l h
    have hm := h n (by omega)
    have h1 := ih (l := l.erase (n : Int)) fun j hj => (List.mem_erase_of_ne (by omega)).2 (h j (by omega))
    rw [List.length_erase_of_mem hm] at h1
    have := List.length_pos_of_mem hm
    omega

set_option maxRecDepth 100000 in
theorem Min_spec {lo hi : Nat} (a : Option Addr) (c : Nat) (xs : List Int) (w : World) (hx : Ints lo hi w a c xs) (hm : xs.length ≤ 1048576) (h0 : 0 < xs.length) :
    Fn Try.prog 138 #[.slice a xs.length c] w (fun v w' => v = VI (lmin xs 0) ∧ Ext w w') := by
  have hE := Ext.refl w
  refine Fn_of Try.func138 rfl rfl (by kernel_rfl) rfl ?_
  refine W_seq ?_
  refine W_region ?_
  refine WL_q rfl (ev_assign rfl) ?_
  refine WL_nil ?_
  refine thenE_n ?_
  refine W_seq ?_
  refine W_seq ?_
  refine W_region ?_
  refine WL_q rfl (ev_move rfl) ?_
  refine WL_q rfl (ev_len Try.underlying23 rfl) ?_
  refine WL_q rfl (ev_lss rfl rfl) ?_
  refine WL_nil ?_
  refine thenE_n ?_
  refine W_cond rfl (fun hg7 => ?_) (fun hg7 => ?_)
  · have hp7 := of_decide_eq_true hg7
    omega
  · have hp7 := of_decide_eq_false hg7
    refine W_skip ?_
    refine thenE_n ?_
    refine W_seq ?_
    refine W_region ?_
    refine WL_q rfl (ev_move rfl) ?_
    refine WL_q rfl (ev_indexAddr Try.underlying23 sz3 rfl rfl (hx.isSome (by omega)) (by omega) (by omega)) ?_
    refine WL_q rfl (ev_load one3 rfl (hx.cell (i := 0) (by omega))) ?_
    refine WL_q rfl (ev_assign rfl) ?_
    refine WL_nil ?_
    refine thenE_n ?_
    refine W_seq ?_
    refine W_seq ?_
    refine W_region ?_
    refine WL_q rfl (ev_assign rfl) ?_
    refine WL_nil ?_
    refine thenE_n ?_
    refine W_block ?_
    refine W_loopC (G := Nat) [(0, _)] ((Subs.c rfl Subs.n)) (fun i => [(3, VI (lmin (xs.take i) 0)), (4, VI (i : Int))]) (fun i w' => Ext w w' ∧ 1 ≤ i ∧ i ≤ xs.length) (fun i => xs.length - i) 1 ((Subs.c (lkI rfl (lmin_one h0).symm) (Subs.c (lkI rfl (by omega)) Subs.n))) (⟨Ext.refl _, ⟨Nat.le_refl _, h0⟩⟩) ?_
    rintro i wL0 ⟨hRL0, hi0, hi'⟩
    have hzL0 := hRL0.size
    replace hE := hE.trans hRL0
    replace hx := hx.ext hRL0
    refine W_seq ?_
    refine W_seq ?_
    refine W_region ?_
    refine WL_q rfl (ev_move rfl) ?_
    refine WL_q rfl (ev_move rfl) ?_
    refine WL_q rfl (ev_len Try.underlying23 rfl) ?_
    refine WL_q rfl (ev_lss rfl rfl) ?_
    refine WL_nil ?_
    refine thenE_n ?_
    refine W_cond rfl (fun hg15 => ?_) (fun hg15 => ?_)
    · have hp15 := of_decide_eq_true hg15
      refine W_skip ?_
      refine thenE_n ?_
      refine W_seq ?_
      refine W_block ?_
      refine W_region ?_
      refine WL_q rfl (ev_move rfl) ?_
      refine WL_q rfl (ev_move rfl) ?_
      refine WL_q rfl (ev_move rfl) ?_
      have hlt : i < xs.length := by omega
      refine WL_q rfl (ev_indexAddr Try.underlying23 sz3 rfl rfl (hx.isSome (by omega)) (by omega) (by omega)) ?_
      refine WL_q rfl (ev_load one3 rfl (hx.cell (i := i) (by omega))) ?_
      refine WL_q rfl (ev_min rfl rfl) ?_
      refine WL_q rfl (ev_assign rfl) ?_
      refine WL_nil ?_
      refine blockE_n ?_
      refine thenE_n ?_
      refine W_region ?_
      refine WL_q rfl (ev_move rfl) ?_
      refine WL_q rfl (ev_add rfl rfl (by omega)) ?_
      refine WL_q rfl (ev_assign rfl) ?_
      refine WL_nil ?_
      refine thenE_n ?_
      exact ⟨i + 1, (Subs.c rfl Subs.n), (Subs.c (lkI rfl (lmin_succ hlt hi0).symm) (Subs.c (lkI rfl (by omega)) Subs.n)), ⟨hRL0, ⟨by omega, by omega⟩⟩, by first | omega | (dsimp only; omega)⟩
    · have hp15 := of_decide_eq_false hg15
      refine W_exit ?_
      refine thenE_x ?_
      refine thenE_x ?_
      refine blockE_hit ?_
      refine thenE_n ?_
      refine W_seq ?_
      refine W_region ?_
      refine WL_q rfl (ev_move rfl) ?_
      refine WL_q rfl (ev_assign rfl) ?_
      refine WL_nil ?_
      refine thenE_n ?_
      refine W_ret ?_
      refine ret1 rfl rfl ?_
      exact ⟨vi (by rw [List.take_of_length_le (by omega)]), hE⟩

set_option maxRecDepth 100000 in
theorem Max_spec {lo hi : Nat} (a : Option Addr) (c : Nat) (xs : List Int) (w : World) (hx : Ints lo hi w a c xs) (hm : xs.length ≤ 1048576) (h0 : 0 < xs.length) :
    Fn Try.prog 116 #[.slice a xs.length c] w (fun v w' => v = VI (lmax xs 0) ∧ Ext w w') := by
  have hE := Ext.refl w
  refine Fn_of Try.func116 rfl rfl (by kernel_rfl) rfl ?_
  refine W_seq ?_
  refine W_region ?_
  refine WL_q rfl (ev_assign rfl) ?_
  refine WL_nil ?_
  refine thenE_n ?_
  refine W_seq ?_
  refine W_seq ?_
  refine W_region ?_
  refine WL_q rfl (ev_move rfl) ?_
  refine WL_q rfl (ev_len Try.underlying23 rfl) ?_
  refine WL_q rfl (ev_lss rfl rfl) ?_
  refine WL_nil ?_
  refine thenE_n ?_
  refine W_cond rfl (fun hg7 => ?_) (fun hg7 => ?_)
  · have hp7 := of_decide_eq_true hg7
    omega
  · have hp7 := of_decide_eq_false hg7
    refine W_skip ?_
    refine thenE_n ?_
    refine W_seq ?_
    refine W_region ?_
    refine WL_q rfl (ev_move rfl) ?_
    refine WL_q rfl (ev_indexAddr Try.underlying23 sz3 rfl rfl (hx.isSome (by omega)) (by omega) (by omega)) ?_
    refine WL_q rfl (ev_load one3 rfl (hx.cell (i := 0) (by omega))) ?_
    refine WL_q rfl (ev_assign rfl) ?_
    refine WL_nil ?_
    refine thenE_n ?_
    refine W_seq ?_
    refine W_seq ?_
    refine W_region ?_
    refine WL_q rfl (ev_assign rfl) ?_
    refine WL_nil ?_
    refine thenE_n ?_
    refine W_block ?_
    refine W_loopC (G := Nat) [(0, _)] ((Subs.c rfl Subs.n)) (fun i => [(3, VI (lmax (xs.take i) 0)), (4, VI (i : Int))]) (fun i w' => Ext w w' ∧ 1 ≤ i ∧ i ≤ xs.length) (fun i => xs.length - i) 1 ((Subs.c (lkI rfl (lmax_one h0).symm) (Subs.c (lkI rfl (by omega)) Subs.n))) (⟨Ext.refl _, ⟨Nat.le_refl _, h0⟩⟩) ?_
    rintro i wL0 ⟨hRL0, hi0, hi'⟩
    have hzL0 := hRL0.size
    replace hE := hE.trans hRL0
    replace hx := hx.ext hRL0
    refine W_seq ?_
    refine W_seq ?_
    refine W_region ?_
    refine WL_q rfl (ev_move rfl) ?_
    refine WL_q rfl (ev_move rfl) ?_
    refine WL_q rfl (ev_len Try.underlying23 rfl) ?_
    refine WL_q rfl (ev_lss rfl rfl) ?_
    refine WL_nil ?_
    refine thenE_n ?_
    refine W_cond rfl (fun hg15 => ?_) (fun hg15 => ?_)
    · have hp15 := of_decide_eq_true hg15
      refine W_skip ?_
      refine thenE_n ?_
      refine W_seq ?_
      refine W_block ?_
      refine W_region ?_
      refine WL_q rfl (ev_move rfl) ?_
      refine WL_q rfl (ev_move rfl) ?_
      refine WL_q rfl (ev_move rfl) ?_
      have hlt : i < xs.length := by omega
      refine WL_q rfl (ev_indexAddr Try.underlying23 sz3 rfl rfl (hx.isSome (by omega)) (by omega) (by omega)) ?_
      refine WL_q rfl (ev_load one3 rfl (hx.cell (i := i) (by omega))) ?_
      refine WL_q rfl (ev_max rfl rfl) ?_
      refine WL_q rfl (ev_assign rfl) ?_
      refine WL_nil ?_
      refine blockE_n ?_
      refine thenE_n ?_
      refine W_region ?_
      refine WL_q rfl (ev_move rfl) ?_
      refine WL_q rfl (ev_add rfl rfl (by omega)) ?_
      refine WL_q rfl (ev_assign rfl) ?_
      refine WL_nil ?_
      refine thenE_n ?_
      exact ⟨i + 1, (Subs.c rfl Subs.n), (Subs.c (lkI rfl (lmax_succ hlt hi0).symm) (Subs.c (lkI rfl (by omega)) Subs.n)), ⟨hRL0, ⟨by omega, by omega⟩⟩, by first | omega | (dsimp only; omega)⟩
    · have hp15 := of_decide_eq_false hg15
      refine W_exit ?_
      refine thenE_x ?_
      refine thenE_x ?_
      refine blockE_hit ?_
      refine thenE_n ?_
      refine W_seq ?_
      refine W_region ?_
      refine WL_q rfl (ev_move rfl) ?_
      refine WL_q rfl (ev_assign rfl) ?_
      refine WL_nil ?_
      refine thenE_n ?_
      refine W_ret ?_
      refine ret1 rfl rfl ?_
      exact ⟨vi (by rw [List.take_of_length_le (by omega)]), hE⟩

set_option maxRecDepth 100000 in
theorem extreme_spec (a : Option Addr) (c : Nat) (x : Nd) (f : FuncId) (r : Int) (w : World) (hm : x.near.length ≤ 6) (hp : 0 < x.near.length → ∀ (w1 : World), Ext w w1 → Fn Try.prog f ([] ++ [Value.slice a x.near.length c] ++ []).toArray w1 (fun v w2 => v = VI r ∧ Ext w1 w2)) :
    Fn Try.prog 137 #[ndV a c x, .func (.func f) #[] #[]] w (fun v w' => v = VI (if x.near.length = 0 then x.own else r) ∧ Ext w w') := by
  have hE := Ext.refl w
  refine Fn_of Try.func137 rfl rfl (by kernel_rfl) rfl ?_
  refine W_seq ?_
  refine W_region ?_
  refine WL_m rfl (ev_box rfl) ?_
  rintro _ w2 ⟨rfl, hN2⟩
  have hz2 := hN2.size
  replace hE := hE.trans hN2.ext
  have hB2 : Blk w2 _ _ [_, _, _, _, _] := hN2.blk
  refine WL_q rfl (ev_assign rfl) ?_
  refine WL_nil ?_
  refine thenE_n ?_
  refine W_seq ?_
  refine W_seq ?_
  refine W_region ?_
  refine WL_q rfl (ev_fieldAddr fo97_4 rfl) ?_
  refine WL_q rfl (ev_load one23 rfl (hB2.cell rfl)) ?_
  refine WL_q rfl (ev_len Try.underlying23 rfl) ?_
  refine WL_q rfl (ev_eql rfl rfl) ?_
  refine WL_nil ?_
  refine thenE_n ?_
  refine W_cond rfl (fun hg8 => ?_) (fun hg8 => ?_)
  · have hp8 := of_decide_eq_true hg8
    refine W_seq ?_
    refine W_region ?_
    refine WL_q rfl (ev_fieldAddr fo97_0 rfl) ?_
    refine WL_q rfl (ev_load one3 rfl (hB2.cell rfl)) ?_
    refine WL_q rfl (ev_assign rfl) ?_
    refine WL_nil ?_
    refine thenE_n ?_
    refine W_ret ?_
    refine thenE_r ?_
    refine ret1 rfl rfl ?_
    first | exact ⟨vi (by rw [if_pos (by omega)]), hE⟩ | exact ⟨vi (by rw [if_neg (by omega)]), hE⟩
  · have hp8 := of_decide_eq_false hg8
    refine W_skip ?_
    refine thenE_n ?_
    refine W_seq ?_
    refine W_region ?_
    refine WL_q rfl (ev_move rfl) ?_
    refine WL_q rfl (ev_fieldAddr fo97_4 rfl) ?_
    refine WL_q rfl (ev_load one23 rfl (hB2.cell rfl)) ?_
    refine WL_m rfl (ev_callv rfl rfl (hp (by omega) _ hE)) ?_
    rintro _ w14 ⟨rfl, hE14⟩
    have hz14 := hE14.size
    replace hE := hE.trans hE14
    replace hB2 := hB2.ext hE14
    refine WL_q rfl (ev_assign rfl) ?_
    refine WL_nil ?_
    refine thenE_n ?_
    refine W_ret ?_
    refine ret1 rfl rfl ?_
    first | exact ⟨vi (by rw [if_pos (by omega)]), hE⟩ | exact ⟨vi (by rw [if_neg (by omega)]), hE⟩

set_option maxRecDepth 100000 in
theorem free_spec {lo hi : Nat} (a : Option Addr) (c : Nat) (x : Nd) (w : World) (hx : Ints lo hi w a c x.near) (hm : x.near.length ≤ 6) :
    Fn Try.prog 139 #[ndV a c x] w (fun v w' => ∃ r, v = VI r ∧ (IsFree x.near r ∧ r ≤ x.near.length) ∧ Ext w w') := by
  have hE := Ext.refl w
  refine Fn_of Try.func139 rfl rfl (by kernel_rfl) rfl ?_
  refine W_seq ?_
  refine W_region ?_
  refine WL_m rfl (ev_box rfl) ?_
  rintro _ w1 ⟨rfl, hN1⟩
  have hz1 := hN1.size
  replace hE := hE.trans hN1.ext
  replace hx := hx.ext hN1.ext
  have hB1 : Blk w1 _ _ [_, _, _, _, _] := hN1.blk
  refine WL_q rfl (ev_assign rfl) ?_
  refine WL_nil ?_
  refine thenE_n ?_
  refine W_seq ?_
  refine W_region ?_
  refine WL_q rfl (ev_assign rfl) ?_
  refine WL_nil ?_
  refine thenE_n ?_
  refine W_seq ?_
  refine W_block ?_
  refine W_loopC (G := Nat) [(1, _)] ((Subs.c rfl Subs.n)) (fun i => [(3, VI (i : Int))]) (fun i w' => Ext w1 w' ∧ ∀ j : Nat, j < i → (j : Int) ∈ x.near) (fun i => x.near.length + 1 - i) 0 ((Subs.c (lkI rfl (by omega)) Subs.n)) (⟨Ext.refl _, fun j h => by omega⟩) ?_
  rintro i wL0 ⟨hRL0, hJ⟩
  have hzL0 := hRL0.size
  replace hE := hE.trans hRL0
  replace hx := hx.ext hRL0
  replace hB1 := hB1.ext hRL0
  have hpg := pig hJ
  refine W_seq ?_
  refine W_seq ?_
  refine W_region ?_
  refine WL_q rfl (ev_fieldAddr fo97_4 rfl) ?_
  refine WL_q rfl (ev_load one23 rfl (hB1.cell rfl)) ?_
  refine WL_q rfl (ev_move rfl) ?_
  refine WL_m rfl (ev_call rfl (Contains_spec _ _ x.near _ _ hx (by omega))) ?_
  rintro _ w7 ⟨b7, rfl, hb7, hE7⟩
  have hz7 := hE7.size
  replace hE := hE.trans hE7
  replace hRL0 := hRL0.trans hE7
  replace hx := hx.ext hE7
  replace hB1 := hB1.ext hE7
  refine WL_nil ?_
  refine thenE_n ?_
  refine W_cond rfl (fun hg7 => ?_) (fun hg7 => ?_)
  · have hp7 := hb7.1 hg7
    refine W_skip ?_
    refine thenE_n ?_
    refine W_block ?_
    refine W_region ?_
    refine WL_q rfl (ev_move rfl) ?_
    refine WL_q rfl (ev_add rfl rfl (by omega)) ?_
    refine WL_q rfl (ev_assign rfl) ?_
    refine WL_nil ?_
    refine blockE_n ?_
    refine thenE_n ?_
    have hJ2 : ∀ j : Nat, j < i + 1 → (j : Int) ∈ x.near := fun j hj => by
      by_cases h : j = i
      · subst h; exact hp7
      · exact hJ j (by omega)
    have hpg2 := pig hJ2
    exact ⟨i + 1, (Subs.c rfl Subs.n), (Subs.c (lkI rfl (by omega)) Subs.n), ⟨hRL0, hJ2⟩, by omega⟩
  · have hp7 := ttN hb7 hg7
    refine W_exit ?_
    refine thenE_x ?_
    refine thenE_x ?_
    refine blockE_hit ?_
    refine thenE_n ?_
    refine W_seq ?_
    refine W_region ?_
    refine WL_q rfl (ev_move rfl) ?_
    refine WL_q rfl (ev_assign rfl) ?_
    refine WL_nil ?_
    refine thenE_n ?_
    refine W_ret ?_
    refine ret1 rfl rfl ?_
    exact ⟨_, rfl, ⟨⟨by omega, hp7, fun j h0 hj => by have := hJ j.toNat (by omega); rwa [Int.toNat_of_nonneg h0] at this⟩, by omega⟩, hE⟩

/-- What an operation without needs finds. -/
inductive LookR (x : Nd) (v : Int) : Int → Int → Prop
  | c1 : LookR x v 1 v
  | c2 : LookR x v 2 x.own
  | c3 : LookR x v 3 x.id
  | c4 : LookR x v 4 (x.near.length : Int)
  | c5 : LookR x v 5 x.input
  | c6 : LookR x v 6 x.round
  | c7 : LookR x v 7 (lmin x.near x.own)
  | c8 : LookR x v 8 (lmax x.near x.own)
  | c9 : LookR x v 9 x.near.sum
  | c10 {r : Int} (h : IsFree x.near r) : LookR x v 10 r
theorem LookR.det {x : Nd} {v k r s : Int} (h : LookR x v k r) (q : LookR x v k s) : r = s := by
  cases h <;> cases q <;> first | rfl | exact IsFree.det (by assumption) (by assumption)
theorem LookR.at1 {x : Nd} {v k : Int} (h : k = 1) : LookR x v k v := h ▸ .c1
theorem LookR.at2 {x : Nd} {v k : Int} (h : k = 2) : LookR x v k x.own := h ▸ .c2
theorem LookR.at3 {x : Nd} {v k : Int} (h : k = 3) : LookR x v k x.id := h ▸ .c3
theorem LookR.at4 {x : Nd} {v k : Int} (h : k = 4) : LookR x v k (x.near.length : Int) := h ▸ .c4
theorem LookR.at5 {x : Nd} {v k : Int} (h : k = 5) : LookR x v k x.input := h ▸ .c5
theorem LookR.at6 {x : Nd} {v k : Int} (h : k = 6) : LookR x v k x.round := h ▸ .c6
theorem lmin_if {l : List Int} {d : Int} : (if l.length = 0 then d else lmin l 0) = lmin l d := by cases l <;> rfl
theorem lmax_if {l : List Int} {d : Int} : (if l.length = 0 then d else lmax l 0) = lmax l d := by cases l <;> rfl
theorem LookR.at7 {x : Nd} {v k : Int} (h : k = 7) : LookR x v k (if x.near.length = 0 then x.own else lmin x.near 0) := by rw [lmin_if]; exact h ▸ .c7
theorem LookR.at8 {x : Nd} {v k : Int} (h : k = 8) : LookR x v k (if x.near.length = 0 then x.own else lmax x.near 0) := by rw [lmax_if]; exact h ▸ .c8
theorem LookR.at9 {x : Nd} {v k s : Int} (h : k = 9) (hs : s = x.near.sum) : LookR x v k s := by rw [h, hs]; exact .c9
theorem LookR.at10 {x : Nd} {v k r : Int} (h : k = 10) (hr : IsFree x.near r) : LookR x v k r := by rw [h]; exact .c10 hr
theorem sum_succ {l : List Int} {i : Nat} (h : i < l.length) : (l.take (i + 1)).sum = (l.take i).sum + l[i] := by rw [List.take_succ_eq_append_getElem h, List.sum_append]; simp
theorem sum_bd {l : List Int} (hr : ∀ y ∈ l, -1000000 ≤ y ∧ y ≤ 1000000) : ∀ i, i ≤ l.length → -1000000 * (i : Int) ≤ (l.take i).sum ∧ (l.take i).sum ≤ 1000000 * (i : Int) := by
  intro i
  induction i with
  | zero => intro _; simp
  | succ i ih =>
    intro h
    have h1 := ih (by omega)
    have h2 := hr _ (List.getElem_mem (show i < l.length by omega))
    rw [sum_succ (by omega)]; omega

set_option maxRecDepth 100000 in
theorem leaf_spec {lo hi : Nat} (a : Option Addr) (c : Nat) (x : Nd) (k v : Int) (w : World) (hx : Ints lo hi w a c x.near) (hm : x.near.length ≤ 6) (hr : ∀ y ∈ x.near, -1000000 ≤ y ∧ y ≤ 1000000) (hk : 1 ≤ k ∧ k ≤ 10) :
    Fn Try.prog 132 #[ndV a c x, .agg #[VI k, VI v]] w (fun u w' => ∃ r, u = VI r ∧ LookR x v k r ∧ Ext w w') := by
  have hE := Ext.refl w
  refine Fn_of Try.func132 rfl rfl (by kernel_rfl) rfl ?_
  refine W_seq ?_
  refine W_region ?_
  refine WL_m rfl (ev_box rfl) ?_
  rintro _ w2 ⟨rfl, hN2⟩
  have hz2 := hN2.size
  replace hE := hE.trans hN2.ext
  replace hx := hx.ext hN2.ext
  have hB2 : Blk w2 _ _ [_, _, _, _, _] := hN2.blk
  refine WL_m rfl (ev_box rfl) ?_
  rintro _ w3 ⟨rfl, hN3⟩
  have hz3 := hN3.size
  replace hE := hE.trans hN3.ext
  replace hx := hx.ext hN3.ext
  replace hB2 := hB2.ext hN3.ext
  have hB3 : Blk w3 _ _ [_, _] := hN3.blk
  refine WL_q rfl (ev_assign rfl) ?_
  refine WL_nil ?_
  refine thenE_n ?_
  refine W_seq ?_
  refine W_seq ?_
  refine W_region ?_
  refine WL_q rfl (ev_fieldAddr fo92_0 rfl) ?_
  refine WL_q rfl (ev_load one3 rfl (hB3.cell rfl)) ?_
  refine WL_nil ?_
  refine thenE_n ?_
  refine W_block ?_
  refine W_seq ?_
  refine W_region ?_
  refine WL_q rfl (ev_eql rfl rfl) ?_
  refine WL_q rfl (ev_assign rfl) ?_
  refine WL_nil ?_
  refine thenE_n ?_
  refine W_cond rfl (fun hg11 => ?_) (fun hg11 => ?_)
  · have hp11 := of_decide_eq_true hg11
    refine W_seq ?_
    refine W_region ?_
    refine WL_q rfl (ev_fieldAddr fo97_0 rfl) ?_
    refine WL_q rfl (ev_load one3 rfl (hB2.cell rfl)) ?_
    refine WL_q rfl (ev_assign rfl) ?_
    refine WL_nil ?_
    refine thenE_n ?_
    refine W_ret ?_
    refine blockE_r ?_
    refine thenE_r ?_
    refine ret1 rfl rfl ?_
    first | (exact ⟨_, rfl, .at2 hp11, hE⟩) | (exact ⟨_, rfl, .at3 hp15, hE⟩) | (exact ⟨_, rfl, .at4 hp19, hE⟩) | (exact ⟨_, rfl, .at5 hp24, hE⟩) | (exact ⟨_, rfl, .at6 hp28, hE⟩) | (exact ⟨_, rfl, .at7 hp32, hE⟩) | (exact ⟨_, rfl, .at8 hp36, hE⟩) | (exact ⟨_, rfl, .at10 hp54 hr56.1, hE⟩) | (exact ⟨_, rfl, .at9 hp40 (by rw [List.take_of_length_le (by omega)]), hE⟩) | (exact ⟨_, rfl, .at1 (by omega), hE⟩)
  · have hp11 := of_decide_eq_false hg11
    refine W_seq ?_
    refine W_region ?_
    refine WL_q rfl (ev_eql rfl rfl) ?_
    refine WL_q rfl (ev_assign rfl) ?_
    refine WL_nil ?_
    refine thenE_n ?_
    refine W_cond rfl (fun hg15 => ?_) (fun hg15 => ?_)
    · have hp15 := of_decide_eq_true hg15
      refine W_seq ?_
      refine W_region ?_
      refine WL_q rfl (ev_fieldAddr fo97_1 rfl) ?_
      refine WL_q rfl (ev_load one3 rfl (hB2.cell rfl)) ?_
      refine WL_q rfl (ev_assign rfl) ?_
      refine WL_nil ?_
      refine thenE_n ?_
      refine W_ret ?_
      refine blockE_r ?_
      refine thenE_r ?_
      refine ret1 rfl rfl ?_
      first | (exact ⟨_, rfl, .at2 hp11, hE⟩) | (exact ⟨_, rfl, .at3 hp15, hE⟩) | (exact ⟨_, rfl, .at4 hp19, hE⟩) | (exact ⟨_, rfl, .at5 hp24, hE⟩) | (exact ⟨_, rfl, .at6 hp28, hE⟩) | (exact ⟨_, rfl, .at7 hp32, hE⟩) | (exact ⟨_, rfl, .at8 hp36, hE⟩) | (exact ⟨_, rfl, .at10 hp54 hr56.1, hE⟩) | (exact ⟨_, rfl, .at9 hp40 (by rw [List.take_of_length_le (by omega)]), hE⟩) | (exact ⟨_, rfl, .at1 (by omega), hE⟩)
    · have hp15 := of_decide_eq_false hg15
      refine W_seq ?_
      refine W_region ?_
      refine WL_q rfl (ev_eql rfl rfl) ?_
      refine WL_q rfl (ev_assign rfl) ?_
      refine WL_nil ?_
      refine thenE_n ?_
      refine W_cond rfl (fun hg19 => ?_) (fun hg19 => ?_)
      · have hp19 := of_decide_eq_true hg19
        refine W_seq ?_
        refine W_region ?_
        refine WL_q rfl (ev_fieldAddr fo97_4 rfl) ?_
        refine WL_q rfl (ev_load one23 rfl (hB2.cell rfl)) ?_
        refine WL_q rfl (ev_len Try.underlying23 rfl) ?_
        refine WL_q rfl (ev_assign rfl) ?_
        refine WL_nil ?_
        refine thenE_n ?_
        refine W_ret ?_
        refine blockE_r ?_
        refine thenE_r ?_
        refine ret1 rfl rfl ?_
        first | (exact ⟨_, rfl, .at2 hp11, hE⟩) | (exact ⟨_, rfl, .at3 hp15, hE⟩) | (exact ⟨_, rfl, .at4 hp19, hE⟩) | (exact ⟨_, rfl, .at5 hp24, hE⟩) | (exact ⟨_, rfl, .at6 hp28, hE⟩) | (exact ⟨_, rfl, .at7 hp32, hE⟩) | (exact ⟨_, rfl, .at8 hp36, hE⟩) | (exact ⟨_, rfl, .at10 hp54 hr56.1, hE⟩) | (exact ⟨_, rfl, .at9 hp40 (by rw [List.take_of_length_le (by omega)]), hE⟩) | (exact ⟨_, rfl, .at1 (by omega), hE⟩)
      · have hp19 := of_decide_eq_false hg19
        refine W_seq ?_
        refine W_region ?_
        refine WL_q rfl (ev_eql rfl rfl) ?_
        refine WL_q rfl (ev_assign rfl) ?_
        refine WL_nil ?_
        refine thenE_n ?_
        refine W_cond rfl (fun hg24 => ?_) (fun hg24 => ?_)
        · have hp24 := of_decide_eq_true hg24
          refine W_seq ?_
          refine W_region ?_
          refine WL_q rfl (ev_fieldAddr fo97_2 rfl) ?_
          refine WL_q rfl (ev_load one3 rfl (hB2.cell rfl)) ?_
          refine WL_q rfl (ev_assign rfl) ?_
          refine WL_nil ?_
          refine thenE_n ?_
          refine W_ret ?_
          refine blockE_r ?_
          refine thenE_r ?_
          refine ret1 rfl rfl ?_
          first | (exact ⟨_, rfl, .at2 hp11, hE⟩) | (exact ⟨_, rfl, .at3 hp15, hE⟩) | (exact ⟨_, rfl, .at4 hp19, hE⟩) | (exact ⟨_, rfl, .at5 hp24, hE⟩) | (exact ⟨_, rfl, .at6 hp28, hE⟩) | (exact ⟨_, rfl, .at7 hp32, hE⟩) | (exact ⟨_, rfl, .at8 hp36, hE⟩) | (exact ⟨_, rfl, .at10 hp54 hr56.1, hE⟩) | (exact ⟨_, rfl, .at9 hp40 (by rw [List.take_of_length_le (by omega)]), hE⟩) | (exact ⟨_, rfl, .at1 (by omega), hE⟩)
        · have hp24 := of_decide_eq_false hg24
          refine W_seq ?_
          refine W_region ?_
          refine WL_q rfl (ev_eql rfl rfl) ?_
          refine WL_q rfl (ev_assign rfl) ?_
          refine WL_nil ?_
          refine thenE_n ?_
          refine W_cond rfl (fun hg28 => ?_) (fun hg28 => ?_)
          · have hp28 := of_decide_eq_true hg28
            refine W_seq ?_
            refine W_region ?_
            refine WL_q rfl (ev_fieldAddr fo97_3 rfl) ?_
            refine WL_q rfl (ev_load one3 rfl (hB2.cell rfl)) ?_
            refine WL_q rfl (ev_assign rfl) ?_
            refine WL_nil ?_
            refine thenE_n ?_
            refine W_ret ?_
            refine blockE_r ?_
            refine thenE_r ?_
            refine ret1 rfl rfl ?_
            first | (exact ⟨_, rfl, .at2 hp11, hE⟩) | (exact ⟨_, rfl, .at3 hp15, hE⟩) | (exact ⟨_, rfl, .at4 hp19, hE⟩) | (exact ⟨_, rfl, .at5 hp24, hE⟩) | (exact ⟨_, rfl, .at6 hp28, hE⟩) | (exact ⟨_, rfl, .at7 hp32, hE⟩) | (exact ⟨_, rfl, .at8 hp36, hE⟩) | (exact ⟨_, rfl, .at10 hp54 hr56.1, hE⟩) | (exact ⟨_, rfl, .at9 hp40 (by rw [List.take_of_length_le (by omega)]), hE⟩) | (exact ⟨_, rfl, .at1 (by omega), hE⟩)
          · have hp28 := of_decide_eq_false hg28
            refine W_seq ?_
            refine W_region ?_
            refine WL_q rfl (ev_eql rfl rfl) ?_
            refine WL_q rfl (ev_assign rfl) ?_
            refine WL_nil ?_
            refine thenE_n ?_
            refine W_cond rfl (fun hg32 => ?_) (fun hg32 => ?_)
            · have hp32 := of_decide_eq_true hg32
              refine W_seq ?_
              refine W_region ?_
              refine WL_q rfl (ev_loads st97 sz97 rfl (cellsB hB2) rfl) ?_
              refine WL_m rfl (ev_call rfl (extreme_spec a c x _ (lmin x.near 0) _ (by omega) (fun h0 w1 hw => Min_spec _ _ _ w1 (hx.ext hw) (by omega) h0))) ?_
              rintro _ w34 ⟨rfl, hE34⟩
              have hz34 := hE34.size
              replace hE := hE.trans hE34
              replace hx := hx.ext hE34
              replace hB2 := hB2.ext hE34
              replace hB3 := hB3.ext hE34
              refine WL_q rfl (ev_assign rfl) ?_
              refine WL_nil ?_
              refine thenE_n ?_
              refine W_ret ?_
              refine blockE_r ?_
              refine thenE_r ?_
              refine ret1 rfl rfl ?_
              first | (exact ⟨_, rfl, .at2 hp11, hE⟩) | (exact ⟨_, rfl, .at3 hp15, hE⟩) | (exact ⟨_, rfl, .at4 hp19, hE⟩) | (exact ⟨_, rfl, .at5 hp24, hE⟩) | (exact ⟨_, rfl, .at6 hp28, hE⟩) | (exact ⟨_, rfl, .at7 hp32, hE⟩) | (exact ⟨_, rfl, .at8 hp36, hE⟩) | (exact ⟨_, rfl, .at10 hp54 hr56.1, hE⟩) | (exact ⟨_, rfl, .at9 hp40 (by rw [List.take_of_length_le (by omega)]), hE⟩) | (exact ⟨_, rfl, .at1 (by omega), hE⟩)
            · have hp32 := of_decide_eq_false hg32
              refine W_seq ?_
              refine W_region ?_
              refine WL_q rfl (ev_eql rfl rfl) ?_
              refine WL_q rfl (ev_assign rfl) ?_
              refine WL_nil ?_
              refine thenE_n ?_
              refine W_cond rfl (fun hg36 => ?_) (fun hg36 => ?_)
              · have hp36 := of_decide_eq_true hg36
                refine W_seq ?_
                refine W_region ?_
                refine WL_q rfl (ev_loads st97 sz97 rfl (cellsB hB2) rfl) ?_
                refine WL_m rfl (ev_call rfl (extreme_spec a c x _ (lmax x.near 0) _ (by omega) (fun h0 w1 hw => Max_spec _ _ _ w1 (hx.ext hw) (by omega) h0))) ?_
                rintro _ w38 ⟨rfl, hE38⟩
                have hz38 := hE38.size
                replace hE := hE.trans hE38
                replace hx := hx.ext hE38
                replace hB2 := hB2.ext hE38
                replace hB3 := hB3.ext hE38
                refine WL_q rfl (ev_assign rfl) ?_
                refine WL_nil ?_
                refine thenE_n ?_
                refine W_ret ?_
                refine blockE_r ?_
                refine thenE_r ?_
                refine ret1 rfl rfl ?_
                first | (exact ⟨_, rfl, .at2 hp11, hE⟩) | (exact ⟨_, rfl, .at3 hp15, hE⟩) | (exact ⟨_, rfl, .at4 hp19, hE⟩) | (exact ⟨_, rfl, .at5 hp24, hE⟩) | (exact ⟨_, rfl, .at6 hp28, hE⟩) | (exact ⟨_, rfl, .at7 hp32, hE⟩) | (exact ⟨_, rfl, .at8 hp36, hE⟩) | (exact ⟨_, rfl, .at10 hp54 hr56.1, hE⟩) | (exact ⟨_, rfl, .at9 hp40 (by rw [List.take_of_length_le (by omega)]), hE⟩) | (exact ⟨_, rfl, .at1 (by omega), hE⟩)
              · have hp36 := of_decide_eq_false hg36
                refine W_seq ?_
                refine W_region ?_
                refine WL_q rfl (ev_eql rfl rfl) ?_
                refine WL_q rfl (ev_assign rfl) ?_
                refine WL_nil ?_
                refine thenE_n ?_
                refine W_cond rfl (fun hg40 => ?_) (fun hg40 => ?_)
                · have hp40 := of_decide_eq_true hg40
                  refine W_seq ?_
                  refine W_region ?_
                  refine WL_q rfl (ev_assign rfl) ?_
                  refine WL_nil ?_
                  refine thenE_n ?_
                  refine W_seq ?_
                  refine W_seq ?_
                  refine W_region ?_
                  refine WL_q rfl (ev_fieldAddr fo97_4 rfl) ?_
                  refine WL_q rfl (ev_load one23 rfl (hB2.cell rfl)) ?_
                  refine WL_q rfl (ev_len Try.underlying23 rfl) ?_
                  refine WL_q rfl (ev_move rfl) ?_
                  refine WL_nil ?_
                  refine thenE_n ?_
                  refine W_block ?_
                  refine W_loopC (G := Nat) [(42, _), (43, _)] ((Subs.c rfl (Subs.c rfl Subs.n))) (fun i => [(5, VI (x.near.take i).sum), (44, VI (i : Int))]) (fun i w' => Ext w3 w' ∧ i ≤ x.near.length) (fun i => x.near.length - i) 0 ((Subs.c (lkI rfl (by simp)) (Subs.c (lkI rfl (by omega)) Subs.n))) (⟨Ext.refl _, Nat.zero_le _⟩) ?_
                  rintro i wL1 ⟨hRL1, hi'⟩
                  have hzL1 := hRL1.size
                  replace hE := hE.trans hRL1
                  replace hx := hx.ext hRL1
                  replace hB2 := hB2.ext hRL1
                  replace hB3 := hB3.ext hRL1
                  refine W_seq ?_
                  refine W_region ?_
                  refine WL_q rfl (ev_lss rfl rfl) ?_
                  refine WL_nil ?_
                  refine thenE_n ?_
                  refine W_seq ?_
                  refine W_cond rfl (fun hg45 => ?_) (fun hg45 => ?_)
                  · have hp45 := of_decide_eq_true hg45
                    refine W_skip ?_
                    refine thenE_n ?_
                    refine W_seq ?_
                    refine W_block ?_
                    refine W_seq ?_
                    refine W_region ?_
                    have hlt : i < x.near.length := by omega
                    have hsb := sum_bd hr i (by omega)
                    have hyb := hr _ (List.getElem_mem hlt)
                    refine WL_q rfl (ev_indexAddr Try.underlying23 sz3 rfl rfl (hx.isSome (by omega)) (by omega) (by omega)) ?_
                    refine WL_q rfl (ev_load one3 rfl (hx.cell (i := i) (by omega))) ?_
                    refine WL_q rfl (ev_assign rfl) ?_
                    refine WL_nil ?_
                    refine thenE_n ?_
                    refine W_region ?_
                    refine WL_q rfl (ev_move rfl) ?_
                    refine WL_q rfl (ev_move rfl) ?_
                    refine WL_q rfl (ev_add rfl rfl (by omega)) ?_
                    refine WL_q rfl (ev_assign rfl) ?_
                    refine WL_nil ?_
                    refine blockE_n ?_
                    refine thenE_n ?_
                    refine W_region ?_
                    refine WL_q rfl (ev_add rfl rfl (by omega)) ?_
                    refine WL_q rfl (ev_move rfl) ?_
                    refine WL_nil ?_
                    refine thenE_n ?_
                    exact ⟨i + 1, (Subs.c rfl (Subs.c rfl Subs.n)), (Subs.c (lkI rfl (sum_succ hlt).symm) (Subs.c (lkI rfl (by omega)) Subs.n)), ⟨hRL1, by omega⟩, by first | omega | (dsimp only; omega)⟩
                  · have hp45 := of_decide_eq_false hg45
                    refine W_exit ?_
                    refine thenE_x ?_
                    refine thenE_x ?_
                    refine blockE_hit ?_
                    refine thenE_n ?_
                    refine W_seq ?_
                    refine W_region ?_
                    refine WL_q rfl (ev_move rfl) ?_
                    refine WL_q rfl (ev_assign rfl) ?_
                    refine WL_nil ?_
                    refine thenE_n ?_
                    refine W_ret ?_
                    refine blockE_r ?_
                    refine thenE_r ?_
                    refine ret1 rfl rfl ?_
                    first | (exact ⟨_, rfl, .at2 hp11, hE⟩) | (exact ⟨_, rfl, .at3 hp15, hE⟩) | (exact ⟨_, rfl, .at4 hp19, hE⟩) | (exact ⟨_, rfl, .at5 hp24, hE⟩) | (exact ⟨_, rfl, .at6 hp28, hE⟩) | (exact ⟨_, rfl, .at7 hp32, hE⟩) | (exact ⟨_, rfl, .at8 hp36, hE⟩) | (exact ⟨_, rfl, .at10 hp54 hr56.1, hE⟩) | (exact ⟨_, rfl, .at9 hp40 (by rw [List.take_of_length_le (by omega)]), hE⟩) | (exact ⟨_, rfl, .at1 (by omega), hE⟩)
                · have hp40 := of_decide_eq_false hg40
                  refine W_seq ?_
                  refine W_region ?_
                  refine WL_q rfl (ev_eql rfl rfl) ?_
                  refine WL_q rfl (ev_assign rfl) ?_
                  refine WL_nil ?_
                  refine thenE_n ?_
                  refine W_cond rfl (fun hg54 => ?_) (fun hg54 => ?_)
                  · have hp54 := of_decide_eq_true hg54
                    refine W_seq ?_
                    refine W_region ?_
                    refine WL_q rfl (ev_loads st97 sz97 rfl (cellsB hB2) rfl) ?_
                    refine WL_m rfl (ev_call rfl (free_spec _ _ x _ hx (by omega))) ?_
                    rintro _ w56 ⟨r56, rfl, hr56, hE56⟩
                    have hz56 := hE56.size
                    replace hE := hE.trans hE56
                    replace hx := hx.ext hE56
                    replace hB2 := hB2.ext hE56
                    replace hB3 := hB3.ext hE56
                    refine WL_q rfl (ev_assign rfl) ?_
                    refine WL_nil ?_
                    refine thenE_n ?_
                    refine W_ret ?_
                    refine blockE_r ?_
                    refine thenE_r ?_
                    refine ret1 rfl rfl ?_
                    first | (exact ⟨_, rfl, .at2 hp11, hE⟩) | (exact ⟨_, rfl, .at3 hp15, hE⟩) | (exact ⟨_, rfl, .at4 hp19, hE⟩) | (exact ⟨_, rfl, .at5 hp24, hE⟩) | (exact ⟨_, rfl, .at6 hp28, hE⟩) | (exact ⟨_, rfl, .at7 hp32, hE⟩) | (exact ⟨_, rfl, .at8 hp36, hE⟩) | (exact ⟨_, rfl, .at10 hp54 hr56.1, hE⟩) | (exact ⟨_, rfl, .at9 hp40 (by rw [List.take_of_length_le (by omega)]), hE⟩) | (exact ⟨_, rfl, .at1 (by omega), hE⟩)
                  · have hp54 := of_decide_eq_false hg54
                    refine W_skip ?_
                    refine blockE_n ?_
                    refine thenE_n ?_
                    refine W_seq ?_
                    refine W_region ?_
                    refine WL_q rfl (ev_fieldAddr fo92_1 rfl) ?_
                    refine WL_q rfl (ev_load one3 rfl (hB3.cell rfl)) ?_
                    refine WL_q rfl (ev_assign rfl) ?_
                    refine WL_nil ?_
                    refine thenE_n ?_
                    refine W_ret ?_
                    refine ret1 rfl rfl ?_
                    first | (exact ⟨_, rfl, .at2 hp11, hE⟩) | (exact ⟨_, rfl, .at3 hp15, hE⟩) | (exact ⟨_, rfl, .at4 hp19, hE⟩) | (exact ⟨_, rfl, .at5 hp24, hE⟩) | (exact ⟨_, rfl, .at6 hp28, hE⟩) | (exact ⟨_, rfl, .at7 hp32, hE⟩) | (exact ⟨_, rfl, .at8 hp36, hE⟩) | (exact ⟨_, rfl, .at10 hp54 hr56.1, hE⟩) | (exact ⟨_, rfl, .at9 hp40 (by rw [List.take_of_length_le (by omega)]), hE⟩) | (exact ⟨_, rfl, .at1 (by omega), hE⟩)

theorem LookR.at7' {x : Nd} {v k s : Int} (h : k = 7) (hs : s = lmin x.near x.own) : LookR x v k s := by rw [h, hs]; exact .c7
theorem LookR.at8' {x : Nd} {v k s : Int} (h : k = 8) (hs : s = lmax x.near x.own) : LookR x v k s := by rw [h, hs]; exact .c8

set_option maxHeartbeats 1000000 in
set_option maxRecDepth 100000 in
theorem vaLook_spec {lo hi : Nat} (a : Option Addr) (c : Nat) (x : Nd) (k v : Int) (w : World) (hx : Ints lo hi w a c x.near) (hm : x.near.length ≤ 6) (hr : ∀ y ∈ x.near, -1000000 ≤ y ∧ y ≤ 1000000) (hk : 1 ≤ k ∧ k ≤ 10) :
    Fn Try.prog 104 #[ndV a c x, .agg #[VI k, VI v]] w (fun u w' => ∃ r, u = VI r ∧ LookR x v k r ∧ Ext w w') := by
  have hE := Ext.refl w
  refine Fn_of Try.func104 rfl rfl (by kernel_rfl) rfl ?_
  refine W_seq ?_
  refine W_region ?_
  refine WL_m rfl (ev_box rfl) ?_
  rintro _ w2 ⟨rfl, hN2⟩
  have hz2 := hN2.size
  replace hE := hE.trans hN2.ext
  replace hx := hx.ext hN2.ext
  have hB2 : Blk w2 _ _ [_, _, _, _, _] := hN2.blk
  refine WL_m rfl (ev_box rfl) ?_
  rintro _ w3 ⟨rfl, hN3⟩
  have hz3 := hN3.size
  replace hE := hE.trans hN3.ext
  replace hx := hx.ext hN3.ext
  replace hB2 := hB2.ext hN3.ext
  have hB3 : Blk w3 _ _ [_, _] := hN3.blk
  refine WL_q rfl (ev_assign rfl) ?_
  refine WL_nil ?_
  refine thenE_n ?_
  refine W_seq ?_
  refine W_drawE [(0, true), (1, true), (2, true), (3, true), (4, true), (5, true), (6, true)] mixed (by kernel_rfl) rfl (by kernel_rfl) ?_
  intro wd1 hEd1 hzd1
  replace hE := hE.trans hEd1
  replace hx := hx.ext hEd1
  replace hB2 := hB2.ext hEd1
  replace hB3 := hB3.ext hEd1
  have hDd1 := Ext.refl wd1
  refine PW_q rfl rfl (fun wq hq => ev_fieldAddr fo90_0 rfl) ?_
  refine PW_q rfl rfl (fun wq hq => ev_load one3 rfl (hq.cell (hB2.cell rfl))) ?_
  refine PW_q rfl rfl (fun wq hq => ev_fieldAddr fo90_0 rfl) ?_
  refine PW_q rfl rfl (fun wq hq => ev_load one3 rfl (hq.cell (hB2.cell rfl))) ?_
  refine PW_q rfl rfl (fun wq hq => ev_assign rfl) ?_
  refine PW_q rfl rfl (fun wq hq => ev_assign rfl) ?_
  refine PW_q rfl rfl (fun wq hq => ev_assign rfl) ?_
  refine PW_nil ?_
  refine thenE_n ?_
  refine W_seq ?_
  refine W_seq ?_
  refine W_region ?_
  refine WL_q rfl (ev_fieldAddr fo90_4 rfl) ?_
  refine WL_q rfl (ev_load one23 rfl (hB2.cell rfl)) ?_
  refine WL_q rfl (ev_len Try.underlying23 rfl) ?_
  refine WL_q rfl (ev_move rfl) ?_
  refine WL_nil ?_
  refine thenE_n ?_
  refine W_block ?_
  refine W_loopC (G := Nat) [(2, _), (3, _), (16, _), (17, _)] ((Subs.c rfl (Subs.c rfl (Subs.c rfl (Subs.c rfl Subs.n))))) (fun i => [(5, VI (lmin (x.near.take i) x.own)), (6, VI (lmax (x.near.take i) x.own)), (7, VI (x.near.take i).sum), (18, VI (i : Int))]) (fun i w' => Ext wd1 w' ∧ i ≤ x.near.length) (fun i => x.near.length - i) 0 ((Subs.c (lkI rfl (by simp [lmin])) (Subs.c (lkI rfl (by simp [lmax])) (Subs.c (lkI rfl (by simp)) (Subs.c (lkI rfl (by omega)) Subs.n))))) (⟨Ext.refl _, Nat.zero_le _⟩) ?_
  rintro i wL0 ⟨hRL0, hi'⟩
  have hzL0 := hRL0.size
  replace hE := hE.trans hRL0
  replace hx := hx.ext hRL0
  replace hB2 := hB2.ext hRL0
  replace hB3 := hB3.ext hRL0
  refine W_seq ?_
  refine W_region ?_
  refine WL_q rfl (ev_lss rfl rfl) ?_
  refine WL_nil ?_
  refine thenE_n ?_
  refine W_seq ?_
  refine W_cond rfl (fun hg19 => ?_) (fun hg19 => ?_)
  · have hp19 := of_decide_eq_true hg19
    refine W_skip ?_
    refine thenE_n ?_
    refine W_seq ?_
    refine W_block ?_
    refine W_seq ?_
    refine W_region ?_
    refine WL_q rfl (ev_move rfl) ?_
    have hlt : i < x.near.length := by omega
    have hsb := sum_bd hr i (by omega)
    have hyb := hr _ (List.getElem_mem hlt)
    have hss := sum_succ hlt
    have hl0 : i = 0 → lmin (x.near.take (i + 1)) x.own = x.near[i] ∧ lmax (x.near.take (i + 1)) x.own = x.near[i] := fun h => by subst h; exact ⟨lmin_one (by omega), lmax_one (by omega)⟩
    have hl1 : 0 < i → lmin (x.near.take (i + 1)) x.own = min (lmin (x.near.take i) x.own) x.near[i] ∧ lmax (x.near.take (i + 1)) x.own = max (lmax (x.near.take i) x.own) x.near[i] := fun h => ⟨lmin_succ hlt h, lmax_succ hlt h⟩
    refine WL_q rfl (ev_indexAddr Try.underlying23 sz3 rfl rfl (hx.isSome (by omega)) (by omega) (by omega)) ?_
    refine WL_q rfl (ev_load one3 rfl (hx.cell (i := i) (by omega))) ?_
    refine WL_q rfl (ev_assign rfl) ?_
    refine WL_q rfl (ev_assign rfl) ?_
    refine WL_nil ?_
    refine thenE_n ?_
    refine W_seq ?_
    refine W_seq ?_
    refine W_region ?_
    refine WL_q rfl (ev_move rfl) ?_
    refine WL_q rfl (ev_eql rfl rfl) ?_
    refine WL_q rfl (ev_move rfl) ?_
    refine WL_splitv (t := 25) rfl (fun hg24 => ?_) (fun hg24 => ?_)
    · have hp24 := of_decide_eq_true hg24
      refine WL_no rfl rfl hg24 rfl ?_
      refine WL_no rfl rfl hg24 rfl ?_
      refine WL_no rfl rfl hg24 rfl ?_
      refine WL_q rfl (ev_pick_t rfl hg24 rfl) ?_
      refine WL_nil ?_
      refine thenE_n ?_
      refine W_cond_t rfl ?_
      refine W_region ?_
      refine WL_q rfl (ev_move rfl) ?_
      refine WL_q rfl (ev_assign rfl) ?_
      refine WL_nil ?_
      refine thenE_n ?_
      refine W_seq ?_
      refine W_seq ?_
      refine W_region ?_
      refine WL_q rfl (ev_move rfl) ?_
      refine WL_q rfl (ev_eql rfl rfl) ?_
      refine WL_q rfl (ev_move rfl) ?_
      refine WL_splitv (t := 33) rfl (fun hg32 => ?_) (fun hg32 => ?_)
      · have hp32 := of_decide_eq_true hg32
        refine WL_no rfl rfl hg32 rfl ?_
        refine WL_no rfl rfl hg32 rfl ?_
        refine WL_no rfl rfl hg32 rfl ?_
        refine WL_q rfl (ev_pick_t rfl hg32 rfl) ?_
        refine WL_nil ?_
        refine thenE_n ?_
        refine W_cond_t rfl ?_
        refine W_region ?_
        refine WL_q rfl (ev_move rfl) ?_
        refine WL_q rfl (ev_assign rfl) ?_
        refine WL_nil ?_
        refine thenE_n ?_
        refine W_region ?_
        refine WL_q rfl (ev_move rfl) ?_
        refine WL_q rfl (ev_move rfl) ?_
        refine WL_q rfl (ev_add rfl rfl (by omega)) ?_
        refine WL_q rfl (ev_assign rfl) ?_
        refine WL_nil ?_
        refine blockE_n ?_
        refine thenE_n ?_
        refine W_region ?_
        refine WL_q rfl (ev_add rfl rfl (by omega)) ?_
        refine WL_q rfl (ev_move rfl) ?_
        refine WL_nil ?_
        refine thenE_n ?_
        exact ⟨i + 1, (Subs.c rfl (Subs.c rfl (Subs.c rfl (Subs.c rfl Subs.n)))), (Subs.c (lkI rfl (by omega)) (Subs.c (lkI rfl (by omega)) (Subs.c (lkI rfl (by omega)) (Subs.c (lkI rfl (by omega)) Subs.n)))), ⟨hRL0, by omega⟩, by first | omega | (dsimp only; omega)⟩
      · have hp32 := of_decide_eq_false hg32
        refine WL_qg rfl rfl hg32 rfl (ev_move rfl) ?_
        refine WL_qg rfl rfl hg32 rfl (ev_move rfl) ?_
        refine WL_qg rfl rfl hg32 rfl (ev_gtr rfl rfl) ?_
        refine WL_q rfl (ev_pick_f rfl hg32 rfl) ?_
        refine WL_nil ?_
        refine thenE_n ?_
        refine W_cond rfl (fun hg36 => ?_) (fun hg36 => ?_)
        · have hp36 := of_decide_eq_true hg36
          refine W_region ?_
          refine WL_q rfl (ev_move rfl) ?_
          refine WL_q rfl (ev_assign rfl) ?_
          refine WL_nil ?_
          refine thenE_n ?_
          refine W_region ?_
          refine WL_q rfl (ev_move rfl) ?_
          refine WL_q rfl (ev_move rfl) ?_
          refine WL_q rfl (ev_add rfl rfl (by omega)) ?_
          refine WL_q rfl (ev_assign rfl) ?_
          refine WL_nil ?_
          refine blockE_n ?_
          refine thenE_n ?_
          refine W_region ?_
          refine WL_q rfl (ev_add rfl rfl (by omega)) ?_
          refine WL_q rfl (ev_move rfl) ?_
          refine WL_nil ?_
          refine thenE_n ?_
          exact ⟨i + 1, (Subs.c rfl (Subs.c rfl (Subs.c rfl (Subs.c rfl Subs.n)))), (Subs.c (lkI rfl (by omega)) (Subs.c (lkI rfl (by omega)) (Subs.c (lkI rfl (by omega)) (Subs.c (lkI rfl (by omega)) Subs.n)))), ⟨hRL0, by omega⟩, by first | omega | (dsimp only; omega)⟩
        · have hp36 := of_decide_eq_false hg36
          refine W_skip ?_
          refine thenE_n ?_
          refine W_region ?_
          refine WL_q rfl (ev_move rfl) ?_
          refine WL_q rfl (ev_move rfl) ?_
          refine WL_q rfl (ev_add rfl rfl (by omega)) ?_
          refine WL_q rfl (ev_assign rfl) ?_
          refine WL_nil ?_
          refine blockE_n ?_
          refine thenE_n ?_
          refine W_region ?_
          refine WL_q rfl (ev_add rfl rfl (by omega)) ?_
          refine WL_q rfl (ev_move rfl) ?_
          refine WL_nil ?_
          refine thenE_n ?_
          exact ⟨i + 1, (Subs.c rfl (Subs.c rfl (Subs.c rfl (Subs.c rfl Subs.n)))), (Subs.c (lkI rfl (by omega)) (Subs.c (lkI rfl (by omega)) (Subs.c (lkI rfl (by omega)) (Subs.c (lkI rfl (by omega)) Subs.n)))), ⟨hRL0, by omega⟩, by first | omega | (dsimp only; omega)⟩
    · have hp24 := of_decide_eq_false hg24
      refine WL_qg rfl rfl hg24 rfl (ev_move rfl) ?_
      refine WL_qg rfl rfl hg24 rfl (ev_move rfl) ?_
      refine WL_qg rfl rfl hg24 rfl (ev_lss rfl rfl) ?_
      refine WL_q rfl (ev_pick_f rfl hg24 rfl) ?_
      refine WL_nil ?_
      refine thenE_n ?_
      refine W_cond rfl (fun hg28 => ?_) (fun hg28 => ?_)
      · have hp28 := of_decide_eq_true hg28
        refine W_region ?_
        refine WL_q rfl (ev_move rfl) ?_
        refine WL_q rfl (ev_assign rfl) ?_
        refine WL_nil ?_
        refine thenE_n ?_
        refine W_seq ?_
        refine W_seq ?_
        refine W_region ?_
        refine WL_q rfl (ev_move rfl) ?_
        refine WL_q rfl (ev_eql rfl rfl) ?_
        refine WL_q rfl (ev_move rfl) ?_
        refine WL_splitv (t := 33) rfl (fun hg32 => ?_) (fun hg32 => ?_)
        · have hp32 := of_decide_eq_true hg32
          refine WL_no rfl rfl hg32 rfl ?_
          refine WL_no rfl rfl hg32 rfl ?_
          refine WL_no rfl rfl hg32 rfl ?_
          refine WL_q rfl (ev_pick_t rfl hg32 rfl) ?_
          refine WL_nil ?_
          refine thenE_n ?_
          refine W_cond_t rfl ?_
          refine W_region ?_
          refine WL_q rfl (ev_move rfl) ?_
          refine WL_q rfl (ev_assign rfl) ?_
          refine WL_nil ?_
          refine thenE_n ?_
          refine W_region ?_
          refine WL_q rfl (ev_move rfl) ?_
          refine WL_q rfl (ev_move rfl) ?_
          refine WL_q rfl (ev_add rfl rfl (by omega)) ?_
          refine WL_q rfl (ev_assign rfl) ?_
          refine WL_nil ?_
          refine blockE_n ?_
          refine thenE_n ?_
          refine W_region ?_
          refine WL_q rfl (ev_add rfl rfl (by omega)) ?_
          refine WL_q rfl (ev_move rfl) ?_
          refine WL_nil ?_
          refine thenE_n ?_
          exact ⟨i + 1, (Subs.c rfl (Subs.c rfl (Subs.c rfl (Subs.c rfl Subs.n)))), (Subs.c (lkI rfl (by omega)) (Subs.c (lkI rfl (by omega)) (Subs.c (lkI rfl (by omega)) (Subs.c (lkI rfl (by omega)) Subs.n)))), ⟨hRL0, by omega⟩, by first | omega | (dsimp only; omega)⟩
        · have hp32 := of_decide_eq_false hg32
          refine WL_qg rfl rfl hg32 rfl (ev_move rfl) ?_
          refine WL_qg rfl rfl hg32 rfl (ev_move rfl) ?_
          refine WL_qg rfl rfl hg32 rfl (ev_gtr rfl rfl) ?_
          refine WL_q rfl (ev_pick_f rfl hg32 rfl) ?_
          refine WL_nil ?_
          refine thenE_n ?_
          refine W_cond rfl (fun hg36 => ?_) (fun hg36 => ?_)
          · have hp36 := of_decide_eq_true hg36
            refine W_region ?_
            refine WL_q rfl (ev_move rfl) ?_
            refine WL_q rfl (ev_assign rfl) ?_
            refine WL_nil ?_
            refine thenE_n ?_
            refine W_region ?_
            refine WL_q rfl (ev_move rfl) ?_
            refine WL_q rfl (ev_move rfl) ?_
            refine WL_q rfl (ev_add rfl rfl (by omega)) ?_
            refine WL_q rfl (ev_assign rfl) ?_
            refine WL_nil ?_
            refine blockE_n ?_
            refine thenE_n ?_
            refine W_region ?_
            refine WL_q rfl (ev_add rfl rfl (by omega)) ?_
            refine WL_q rfl (ev_move rfl) ?_
            refine WL_nil ?_
            refine thenE_n ?_
            exact ⟨i + 1, (Subs.c rfl (Subs.c rfl (Subs.c rfl (Subs.c rfl Subs.n)))), (Subs.c (lkI rfl (by omega)) (Subs.c (lkI rfl (by omega)) (Subs.c (lkI rfl (by omega)) (Subs.c (lkI rfl (by omega)) Subs.n)))), ⟨hRL0, by omega⟩, by first | omega | (dsimp only; omega)⟩
          · have hp36 := of_decide_eq_false hg36
            refine W_skip ?_
            refine thenE_n ?_
            refine W_region ?_
            refine WL_q rfl (ev_move rfl) ?_
            refine WL_q rfl (ev_move rfl) ?_
            refine WL_q rfl (ev_add rfl rfl (by omega)) ?_
            refine WL_q rfl (ev_assign rfl) ?_
            refine WL_nil ?_
            refine blockE_n ?_
            refine thenE_n ?_
            refine W_region ?_
            refine WL_q rfl (ev_add rfl rfl (by omega)) ?_
            refine WL_q rfl (ev_move rfl) ?_
            refine WL_nil ?_
            refine thenE_n ?_
            exact ⟨i + 1, (Subs.c rfl (Subs.c rfl (Subs.c rfl (Subs.c rfl Subs.n)))), (Subs.c (lkI rfl (by omega)) (Subs.c (lkI rfl (by omega)) (Subs.c (lkI rfl (by omega)) (Subs.c (lkI rfl (by omega)) Subs.n)))), ⟨hRL0, by omega⟩, by first | omega | (dsimp only; omega)⟩
      · have hp28 := of_decide_eq_false hg28
        refine W_skip ?_
        refine thenE_n ?_
        refine W_seq ?_
        refine W_seq ?_
        refine W_region ?_
        refine WL_q rfl (ev_move rfl) ?_
        refine WL_q rfl (ev_eql rfl rfl) ?_
        refine WL_q rfl (ev_move rfl) ?_
        refine WL_splitv (t := 33) rfl (fun hg32 => ?_) (fun hg32 => ?_)
        · have hp32 := of_decide_eq_true hg32
          refine WL_no rfl rfl hg32 rfl ?_
          refine WL_no rfl rfl hg32 rfl ?_
          refine WL_no rfl rfl hg32 rfl ?_
          refine WL_q rfl (ev_pick_t rfl hg32 rfl) ?_
          refine WL_nil ?_
          refine thenE_n ?_
          refine W_cond_t rfl ?_
          refine W_region ?_
          refine WL_q rfl (ev_move rfl) ?_
          refine WL_q rfl (ev_assign rfl) ?_
          refine WL_nil ?_
          refine thenE_n ?_
          refine W_region ?_
          refine WL_q rfl (ev_move rfl) ?_
          refine WL_q rfl (ev_move rfl) ?_
          refine WL_q rfl (ev_add rfl rfl (by omega)) ?_
          refine WL_q rfl (ev_assign rfl) ?_
          refine WL_nil ?_
          refine blockE_n ?_
          refine thenE_n ?_
          refine W_region ?_
          refine WL_q rfl (ev_add rfl rfl (by omega)) ?_
          refine WL_q rfl (ev_move rfl) ?_
          refine WL_nil ?_
          refine thenE_n ?_
          exact ⟨i + 1, (Subs.c rfl (Subs.c rfl (Subs.c rfl (Subs.c rfl Subs.n)))), (Subs.c (lkI rfl (by omega)) (Subs.c (lkI rfl (by omega)) (Subs.c (lkI rfl (by omega)) (Subs.c (lkI rfl (by omega)) Subs.n)))), ⟨hRL0, by omega⟩, by first | omega | (dsimp only; omega)⟩
        · have hp32 := of_decide_eq_false hg32
          refine WL_qg rfl rfl hg32 rfl (ev_move rfl) ?_
          refine WL_qg rfl rfl hg32 rfl (ev_move rfl) ?_
          refine WL_qg rfl rfl hg32 rfl (ev_gtr rfl rfl) ?_
          refine WL_q rfl (ev_pick_f rfl hg32 rfl) ?_
          refine WL_nil ?_
          refine thenE_n ?_
          refine W_cond rfl (fun hg36 => ?_) (fun hg36 => ?_)
          · have hp36 := of_decide_eq_true hg36
            refine W_region ?_
            refine WL_q rfl (ev_move rfl) ?_
            refine WL_q rfl (ev_assign rfl) ?_
            refine WL_nil ?_
            refine thenE_n ?_
            refine W_region ?_
            refine WL_q rfl (ev_move rfl) ?_
            refine WL_q rfl (ev_move rfl) ?_
            refine WL_q rfl (ev_add rfl rfl (by omega)) ?_
            refine WL_q rfl (ev_assign rfl) ?_
            refine WL_nil ?_
            refine blockE_n ?_
            refine thenE_n ?_
            refine W_region ?_
            refine WL_q rfl (ev_add rfl rfl (by omega)) ?_
            refine WL_q rfl (ev_move rfl) ?_
            refine WL_nil ?_
            refine thenE_n ?_
            exact ⟨i + 1, (Subs.c rfl (Subs.c rfl (Subs.c rfl (Subs.c rfl Subs.n)))), (Subs.c (lkI rfl (by omega)) (Subs.c (lkI rfl (by omega)) (Subs.c (lkI rfl (by omega)) (Subs.c (lkI rfl (by omega)) Subs.n)))), ⟨hRL0, by omega⟩, by first | omega | (dsimp only; omega)⟩
          · have hp36 := of_decide_eq_false hg36
            refine W_skip ?_
            refine thenE_n ?_
            refine W_region ?_
            refine WL_q rfl (ev_move rfl) ?_
            refine WL_q rfl (ev_move rfl) ?_
            refine WL_q rfl (ev_add rfl rfl (by omega)) ?_
            refine WL_q rfl (ev_assign rfl) ?_
            refine WL_nil ?_
            refine blockE_n ?_
            refine thenE_n ?_
            refine W_region ?_
            refine WL_q rfl (ev_add rfl rfl (by omega)) ?_
            refine WL_q rfl (ev_move rfl) ?_
            refine WL_nil ?_
            refine thenE_n ?_
            exact ⟨i + 1, (Subs.c rfl (Subs.c rfl (Subs.c rfl (Subs.c rfl Subs.n)))), (Subs.c (lkI rfl (by omega)) (Subs.c (lkI rfl (by omega)) (Subs.c (lkI rfl (by omega)) (Subs.c (lkI rfl (by omega)) Subs.n)))), ⟨hRL0, by omega⟩, by first | omega | (dsimp only; omega)⟩
  · have hp19 := of_decide_eq_false hg19
    refine W_exit ?_
    refine thenE_x ?_
    refine thenE_x ?_
    refine blockE_hit ?_
    refine thenE_n ?_
    refine W_seq ?_
    refine W_seq ?_
    refine W_region ?_
    refine WL_q rfl (ev_fieldAddr fo92_0 rfl) ?_
    refine WL_q rfl (ev_load one3 rfl (hB3.cell rfl)) ?_
    refine WL_nil ?_
    refine thenE_n ?_
    refine W_block ?_
    refine W_seq ?_
    refine W_region ?_
    refine WL_q rfl (ev_eql rfl rfl) ?_
    refine WL_q rfl (ev_assign rfl) ?_
    refine WL_nil ?_
    refine thenE_n ?_
    refine W_cond rfl (fun hg46 => ?_) (fun hg46 => ?_)
    · have hp46 := of_decide_eq_true hg46
      refine W_seq ?_
      refine W_region ?_
      refine WL_q rfl (ev_fieldAddr fo92_1 rfl) ?_
      refine WL_q rfl (ev_load one3 rfl (hB3.cell rfl)) ?_
      refine WL_q rfl (ev_assign rfl) ?_
      refine WL_nil ?_
      refine thenE_n ?_
      refine W_ret ?_
      refine blockE_r ?_
      refine thenE_r ?_
      refine ret1 rfl rfl ?_
      first | (exact ⟨_, rfl, .at1 hp46, hE⟩) | (exact ⟨_, rfl, .at2 hp50, hE⟩) | (exact ⟨_, rfl, .at3 hp54, hE⟩) | (exact ⟨_, rfl, .at4 hp58, hE⟩) | (exact ⟨_, rfl, .at5 hp63, hE⟩) | (exact ⟨_, rfl, .at6 hp67, hE⟩) | (exact ⟨_, rfl, .at7' hp71 (by rw [List.take_of_length_le (by omega)]), hE⟩) | (exact ⟨_, rfl, .at8' hp74 (by rw [List.take_of_length_le (by omega)]), hE⟩) | (exact ⟨_, rfl, .at9 hp77 (by rw [List.take_of_length_le (by omega)]), hE⟩) | (exact ⟨_, rfl, .at10 (by omega) ⟨by omega, hp82, fun j h0 hj => by have := hJ j.toNat (by omega); rwa [Int.toNat_of_nonneg h0] at this⟩, hE⟩)
    · have hp46 := of_decide_eq_false hg46
      refine W_seq ?_
      refine W_region ?_
      refine WL_q rfl (ev_eql rfl rfl) ?_
      refine WL_q rfl (ev_assign rfl) ?_
      refine WL_nil ?_
      refine thenE_n ?_
      refine W_cond rfl (fun hg50 => ?_) (fun hg50 => ?_)
      · have hp50 := of_decide_eq_true hg50
        refine W_seq ?_
        refine W_region ?_
        refine WL_q rfl (ev_fieldAddr fo90_0 rfl) ?_
        refine WL_q rfl (ev_load one3 rfl (hB2.cell rfl)) ?_
        refine WL_q rfl (ev_assign rfl) ?_
        refine WL_nil ?_
        refine thenE_n ?_
        refine W_ret ?_
        refine blockE_r ?_
        refine thenE_r ?_
        refine ret1 rfl rfl ?_
        first | (exact ⟨_, rfl, .at1 hp46, hE⟩) | (exact ⟨_, rfl, .at2 hp50, hE⟩) | (exact ⟨_, rfl, .at3 hp54, hE⟩) | (exact ⟨_, rfl, .at4 hp58, hE⟩) | (exact ⟨_, rfl, .at5 hp63, hE⟩) | (exact ⟨_, rfl, .at6 hp67, hE⟩) | (exact ⟨_, rfl, .at7' hp71 (by rw [List.take_of_length_le (by omega)]), hE⟩) | (exact ⟨_, rfl, .at8' hp74 (by rw [List.take_of_length_le (by omega)]), hE⟩) | (exact ⟨_, rfl, .at9 hp77 (by rw [List.take_of_length_le (by omega)]), hE⟩) | (exact ⟨_, rfl, .at10 (by omega) ⟨by omega, hp82, fun j h0 hj => by have := hJ j.toNat (by omega); rwa [Int.toNat_of_nonneg h0] at this⟩, hE⟩)
      · have hp50 := of_decide_eq_false hg50
        refine W_seq ?_
        refine W_region ?_
        refine WL_q rfl (ev_eql rfl rfl) ?_
        refine WL_q rfl (ev_assign rfl) ?_
        refine WL_nil ?_
        refine thenE_n ?_
        refine W_cond rfl (fun hg54 => ?_) (fun hg54 => ?_)
        · have hp54 := of_decide_eq_true hg54
          refine W_seq ?_
          refine W_region ?_
          refine WL_q rfl (ev_fieldAddr fo90_1 rfl) ?_
          refine WL_q rfl (ev_load one3 rfl (hB2.cell rfl)) ?_
          refine WL_q rfl (ev_assign rfl) ?_
          refine WL_nil ?_
          refine thenE_n ?_
          refine W_ret ?_
          refine blockE_r ?_
          refine thenE_r ?_
          refine ret1 rfl rfl ?_
          first | (exact ⟨_, rfl, .at1 hp46, hE⟩) | (exact ⟨_, rfl, .at2 hp50, hE⟩) | (exact ⟨_, rfl, .at3 hp54, hE⟩) | (exact ⟨_, rfl, .at4 hp58, hE⟩) | (exact ⟨_, rfl, .at5 hp63, hE⟩) | (exact ⟨_, rfl, .at6 hp67, hE⟩) | (exact ⟨_, rfl, .at7' hp71 (by rw [List.take_of_length_le (by omega)]), hE⟩) | (exact ⟨_, rfl, .at8' hp74 (by rw [List.take_of_length_le (by omega)]), hE⟩) | (exact ⟨_, rfl, .at9 hp77 (by rw [List.take_of_length_le (by omega)]), hE⟩) | (exact ⟨_, rfl, .at10 (by omega) ⟨by omega, hp82, fun j h0 hj => by have := hJ j.toNat (by omega); rwa [Int.toNat_of_nonneg h0] at this⟩, hE⟩)
        · have hp54 := of_decide_eq_false hg54
          refine W_seq ?_
          refine W_region ?_
          refine WL_q rfl (ev_eql rfl rfl) ?_
          refine WL_q rfl (ev_assign rfl) ?_
          refine WL_nil ?_
          refine thenE_n ?_
          refine W_cond rfl (fun hg58 => ?_) (fun hg58 => ?_)
          · have hp58 := of_decide_eq_true hg58
            refine W_seq ?_
            refine W_region ?_
            refine WL_q rfl (ev_fieldAddr fo90_4 rfl) ?_
            refine WL_q rfl (ev_load one23 rfl (hB2.cell rfl)) ?_
            refine WL_q rfl (ev_len Try.underlying23 rfl) ?_
            refine WL_q rfl (ev_assign rfl) ?_
            refine WL_nil ?_
            refine thenE_n ?_
            refine W_ret ?_
            refine blockE_r ?_
            refine thenE_r ?_
            refine ret1 rfl rfl ?_
            first | (exact ⟨_, rfl, .at1 hp46, hE⟩) | (exact ⟨_, rfl, .at2 hp50, hE⟩) | (exact ⟨_, rfl, .at3 hp54, hE⟩) | (exact ⟨_, rfl, .at4 hp58, hE⟩) | (exact ⟨_, rfl, .at5 hp63, hE⟩) | (exact ⟨_, rfl, .at6 hp67, hE⟩) | (exact ⟨_, rfl, .at7' hp71 (by rw [List.take_of_length_le (by omega)]), hE⟩) | (exact ⟨_, rfl, .at8' hp74 (by rw [List.take_of_length_le (by omega)]), hE⟩) | (exact ⟨_, rfl, .at9 hp77 (by rw [List.take_of_length_le (by omega)]), hE⟩) | (exact ⟨_, rfl, .at10 (by omega) ⟨by omega, hp82, fun j h0 hj => by have := hJ j.toNat (by omega); rwa [Int.toNat_of_nonneg h0] at this⟩, hE⟩)
          · have hp58 := of_decide_eq_false hg58
            refine W_seq ?_
            refine W_region ?_
            refine WL_q rfl (ev_eql rfl rfl) ?_
            refine WL_q rfl (ev_assign rfl) ?_
            refine WL_nil ?_
            refine thenE_n ?_
            refine W_cond rfl (fun hg63 => ?_) (fun hg63 => ?_)
            · have hp63 := of_decide_eq_true hg63
              refine W_seq ?_
              refine W_region ?_
              refine WL_q rfl (ev_fieldAddr fo90_2 rfl) ?_
              refine WL_q rfl (ev_load one3 rfl (hB2.cell rfl)) ?_
              refine WL_q rfl (ev_assign rfl) ?_
              refine WL_nil ?_
              refine thenE_n ?_
              refine W_ret ?_
              refine blockE_r ?_
              refine thenE_r ?_
              refine ret1 rfl rfl ?_
              first | (exact ⟨_, rfl, .at1 hp46, hE⟩) | (exact ⟨_, rfl, .at2 hp50, hE⟩) | (exact ⟨_, rfl, .at3 hp54, hE⟩) | (exact ⟨_, rfl, .at4 hp58, hE⟩) | (exact ⟨_, rfl, .at5 hp63, hE⟩) | (exact ⟨_, rfl, .at6 hp67, hE⟩) | (exact ⟨_, rfl, .at7' hp71 (by rw [List.take_of_length_le (by omega)]), hE⟩) | (exact ⟨_, rfl, .at8' hp74 (by rw [List.take_of_length_le (by omega)]), hE⟩) | (exact ⟨_, rfl, .at9 hp77 (by rw [List.take_of_length_le (by omega)]), hE⟩) | (exact ⟨_, rfl, .at10 (by omega) ⟨by omega, hp82, fun j h0 hj => by have := hJ j.toNat (by omega); rwa [Int.toNat_of_nonneg h0] at this⟩, hE⟩)
            · have hp63 := of_decide_eq_false hg63
              refine W_seq ?_
              refine W_region ?_
              refine WL_q rfl (ev_eql rfl rfl) ?_
              refine WL_q rfl (ev_assign rfl) ?_
              refine WL_nil ?_
              refine thenE_n ?_
              refine W_cond rfl (fun hg67 => ?_) (fun hg67 => ?_)
              · have hp67 := of_decide_eq_true hg67
                refine W_seq ?_
                refine W_region ?_
                refine WL_q rfl (ev_fieldAddr fo90_3 rfl) ?_
                refine WL_q rfl (ev_load one3 rfl (hB2.cell rfl)) ?_
                refine WL_q rfl (ev_assign rfl) ?_
                refine WL_nil ?_
                refine thenE_n ?_
                refine W_ret ?_
                refine blockE_r ?_
                refine thenE_r ?_
                refine ret1 rfl rfl ?_
                first | (exact ⟨_, rfl, .at1 hp46, hE⟩) | (exact ⟨_, rfl, .at2 hp50, hE⟩) | (exact ⟨_, rfl, .at3 hp54, hE⟩) | (exact ⟨_, rfl, .at4 hp58, hE⟩) | (exact ⟨_, rfl, .at5 hp63, hE⟩) | (exact ⟨_, rfl, .at6 hp67, hE⟩) | (exact ⟨_, rfl, .at7' hp71 (by rw [List.take_of_length_le (by omega)]), hE⟩) | (exact ⟨_, rfl, .at8' hp74 (by rw [List.take_of_length_le (by omega)]), hE⟩) | (exact ⟨_, rfl, .at9 hp77 (by rw [List.take_of_length_le (by omega)]), hE⟩) | (exact ⟨_, rfl, .at10 (by omega) ⟨by omega, hp82, fun j h0 hj => by have := hJ j.toNat (by omega); rwa [Int.toNat_of_nonneg h0] at this⟩, hE⟩)
              · have hp67 := of_decide_eq_false hg67
                refine W_seq ?_
                refine W_region ?_
                refine WL_q rfl (ev_eql rfl rfl) ?_
                refine WL_q rfl (ev_assign rfl) ?_
                refine WL_nil ?_
                refine thenE_n ?_
                refine W_cond rfl (fun hg71 => ?_) (fun hg71 => ?_)
                · have hp71 := of_decide_eq_true hg71
                  refine W_seq ?_
                  refine W_region ?_
                  refine WL_q rfl (ev_move rfl) ?_
                  refine WL_q rfl (ev_assign rfl) ?_
                  refine WL_nil ?_
                  refine thenE_n ?_
                  refine W_ret ?_
                  refine blockE_r ?_
                  refine thenE_r ?_
                  refine ret1 rfl rfl ?_
                  first | (exact ⟨_, rfl, .at1 hp46, hE⟩) | (exact ⟨_, rfl, .at2 hp50, hE⟩) | (exact ⟨_, rfl, .at3 hp54, hE⟩) | (exact ⟨_, rfl, .at4 hp58, hE⟩) | (exact ⟨_, rfl, .at5 hp63, hE⟩) | (exact ⟨_, rfl, .at6 hp67, hE⟩) | (exact ⟨_, rfl, .at7' hp71 (by rw [List.take_of_length_le (by omega)]), hE⟩) | (exact ⟨_, rfl, .at8' hp74 (by rw [List.take_of_length_le (by omega)]), hE⟩) | (exact ⟨_, rfl, .at9 hp77 (by rw [List.take_of_length_le (by omega)]), hE⟩) | (exact ⟨_, rfl, .at10 (by omega) ⟨by omega, hp82, fun j h0 hj => by have := hJ j.toNat (by omega); rwa [Int.toNat_of_nonneg h0] at this⟩, hE⟩)
                · have hp71 := of_decide_eq_false hg71
                  refine W_seq ?_
                  refine W_region ?_
                  refine WL_q rfl (ev_eql rfl rfl) ?_
                  refine WL_q rfl (ev_assign rfl) ?_
                  refine WL_nil ?_
                  refine thenE_n ?_
                  refine W_cond rfl (fun hg74 => ?_) (fun hg74 => ?_)
                  · have hp74 := of_decide_eq_true hg74
                    refine W_seq ?_
                    refine W_region ?_
                    refine WL_q rfl (ev_move rfl) ?_
                    refine WL_q rfl (ev_assign rfl) ?_
                    refine WL_nil ?_
                    refine thenE_n ?_
                    refine W_ret ?_
                    refine blockE_r ?_
                    refine thenE_r ?_
                    refine ret1 rfl rfl ?_
                    first | (exact ⟨_, rfl, .at1 hp46, hE⟩) | (exact ⟨_, rfl, .at2 hp50, hE⟩) | (exact ⟨_, rfl, .at3 hp54, hE⟩) | (exact ⟨_, rfl, .at4 hp58, hE⟩) | (exact ⟨_, rfl, .at5 hp63, hE⟩) | (exact ⟨_, rfl, .at6 hp67, hE⟩) | (exact ⟨_, rfl, .at7' hp71 (by rw [List.take_of_length_le (by omega)]), hE⟩) | (exact ⟨_, rfl, .at8' hp74 (by rw [List.take_of_length_le (by omega)]), hE⟩) | (exact ⟨_, rfl, .at9 hp77 (by rw [List.take_of_length_le (by omega)]), hE⟩) | (exact ⟨_, rfl, .at10 (by omega) ⟨by omega, hp82, fun j h0 hj => by have := hJ j.toNat (by omega); rwa [Int.toNat_of_nonneg h0] at this⟩, hE⟩)
                  · have hp74 := of_decide_eq_false hg74
                    refine W_seq ?_
                    refine W_region ?_
                    refine WL_q rfl (ev_eql rfl rfl) ?_
                    refine WL_q rfl (ev_assign rfl) ?_
                    refine WL_nil ?_
                    refine thenE_n ?_
                    refine W_cond rfl (fun hg77 => ?_) (fun hg77 => ?_)
                    · have hp77 := of_decide_eq_true hg77
                      refine W_seq ?_
                      refine W_region ?_
                      refine WL_q rfl (ev_move rfl) ?_
                      refine WL_q rfl (ev_assign rfl) ?_
                      refine WL_nil ?_
                      refine thenE_n ?_
                      refine W_ret ?_
                      refine blockE_r ?_
                      refine thenE_r ?_
                      refine ret1 rfl rfl ?_
                      first | (exact ⟨_, rfl, .at1 hp46, hE⟩) | (exact ⟨_, rfl, .at2 hp50, hE⟩) | (exact ⟨_, rfl, .at3 hp54, hE⟩) | (exact ⟨_, rfl, .at4 hp58, hE⟩) | (exact ⟨_, rfl, .at5 hp63, hE⟩) | (exact ⟨_, rfl, .at6 hp67, hE⟩) | (exact ⟨_, rfl, .at7' hp71 (by rw [List.take_of_length_le (by omega)]), hE⟩) | (exact ⟨_, rfl, .at8' hp74 (by rw [List.take_of_length_le (by omega)]), hE⟩) | (exact ⟨_, rfl, .at9 hp77 (by rw [List.take_of_length_le (by omega)]), hE⟩) | (exact ⟨_, rfl, .at10 (by omega) ⟨by omega, hp82, fun j h0 hj => by have := hJ j.toNat (by omega); rwa [Int.toNat_of_nonneg h0] at this⟩, hE⟩)
                    · have hp77 := of_decide_eq_false hg77
                      refine W_skip ?_
                      refine blockE_n ?_
                      refine thenE_n ?_
                      refine W_seq ?_
                      refine W_region ?_
                      refine WL_q rfl (ev_assign rfl) ?_
                      refine WL_nil ?_
                      refine thenE_n ?_
                      refine W_seq ?_
                      refine W_block ?_
                      refine W_loopC (G := Nat) [(2, _)] ((Subs.c rfl Subs.n)) (fun n => [(10, VI (n : Int))]) (fun n w' => Ext wL0 w' ∧ ∀ j : Nat, j < n → (j : Int) ∈ x.near) (fun n => x.near.length + 1 - n) 0 ((Subs.c (lkI rfl (by omega)) Subs.n)) (⟨Ext.refl _, fun j h => by omega⟩) ?_
                      rintro n wL3 ⟨hRL3, hJ⟩
                      have hzL3 := hRL3.size
                      replace hE := hE.trans hRL3
                      replace hx := hx.ext hRL3
                      replace hB2 := hB2.ext hRL3
                      replace hB3 := hB3.ext hRL3
                      have hpg := pig hJ
                      refine W_seq ?_
                      refine W_seq ?_
                      refine W_region ?_
                      refine WL_q rfl (ev_fieldAddr fo90_4 rfl) ?_
                      refine WL_q rfl (ev_load one23 rfl (hB2.cell rfl)) ?_
                      refine WL_q rfl (ev_move rfl) ?_
                      refine WL_m rfl (ev_call rfl (l1Has_spec _ _ x.near _ _ rfl hx (by omega))) ?_
                      rintro _ w82 ⟨b82, rfl, hb82, hE82⟩
                      have hz82 := hE82.size
                      replace hE := hE.trans hE82
                      replace hRL3 := hRL3.trans hE82
                      replace hx := hx.ext hE82
                      replace hB2 := hB2.ext hE82
                      replace hB3 := hB3.ext hE82
                      refine WL_nil ?_
                      refine thenE_n ?_
                      refine W_cond rfl (fun hg82 => ?_) (fun hg82 => ?_)
                      · have hp82 := hb82.1 hg82
                        refine W_skip ?_
                        refine thenE_n ?_
                        refine W_block ?_
                        refine W_region ?_
                        refine WL_q rfl (ev_move rfl) ?_
                        refine WL_q rfl (ev_add rfl rfl (by omega)) ?_
                        refine WL_q rfl (ev_assign rfl) ?_
                        refine WL_nil ?_
                        refine blockE_n ?_
                        refine thenE_n ?_
                        have hJ2 : ∀ j : Nat, j < n + 1 → (j : Int) ∈ x.near := fun j hj => by
                          by_cases h : j = n
                          · subst h; exact hp82
                          · exact hJ j (by omega)
                        have hpg2 := pig hJ2
                        exact ⟨n + 1, (Subs.c rfl Subs.n), (Subs.c (lkI rfl (by omega)) Subs.n), ⟨hRL3, hJ2⟩, by omega⟩
                      · have hp82 := ttN hb82 hg82
                        refine W_exit ?_
                        refine thenE_x ?_
                        refine thenE_x ?_
                        refine blockE_hit ?_
                        refine thenE_n ?_
                        refine W_seq ?_
                        refine W_region ?_
                        refine WL_q rfl (ev_move rfl) ?_
                        refine WL_q rfl (ev_assign rfl) ?_
                        refine WL_nil ?_
                        refine thenE_n ?_
                        refine W_ret ?_
                        refine ret1 rfl rfl ?_
                        first | (exact ⟨_, rfl, .at1 hp46, hE⟩) | (exact ⟨_, rfl, .at2 hp50, hE⟩) | (exact ⟨_, rfl, .at3 hp54, hE⟩) | (exact ⟨_, rfl, .at4 hp58, hE⟩) | (exact ⟨_, rfl, .at5 hp63, hE⟩) | (exact ⟨_, rfl, .at6 hp67, hE⟩) | (exact ⟨_, rfl, .at7' hp71 (by rw [List.take_of_length_le (by omega)]), hE⟩) | (exact ⟨_, rfl, .at8' hp74 (by rw [List.take_of_length_le (by omega)]), hE⟩) | (exact ⟨_, rfl, .at9 hp77 (by rw [List.take_of_length_le (by omega)]), hE⟩) | (exact ⟨_, rfl, .at10 (by omega) ⟨by omega, hp82, fun j h0 hj => by have := hJ j.toNat (by omega); rwa [Int.toNat_of_nonneg h0] at this⟩, hE⟩)

def tA (ts : List Int) (i : Nat) : Int := ts.getD i 0
theorem tA_get {ts : List Int} {i : Nat} (h : i < ts.length) : ts[i] = tA ts i := by simp [tA, List.getD, List.getElem?_eq_getElem h]
theorem tA_head (ts : List Int) : ts.headD 0 = tA ts 0 := by cases ts <;> rfl
/-- What an operation finds on the values ts. -/
inductive ResR (x : Nd) (v : Int) (ts : List Int) (k r : Int) : Prop
  | look (h : k ≤ 10) (hl : LookR x v k r)
  | count (h : k = 11) (hr : r = ((x.near.countP fun y => decide (y = tA ts 0)) : Nat))
  | below (h : k = 12) (hr : r = ((x.near.countP fun y => decide (y < tA ts 0)) : Nat))
  | two (h : 13 ≤ k ∧ k ≤ 18) (hr : r = two k (tA ts 0) (tA ts 1))
  | cond (h : k = 19) (hr : r = if tA ts 0 > 0 then tA ts 1 else tA ts 2)
theorem ResR.det {x : Nd} {v : Int} {ts : List Int} {k r s : Int} (h : ResR x v ts k r) (q : ResR x v ts k s) : r = s := by
  rcases h with ⟨h, h1⟩ | ⟨h, h1⟩ | ⟨h, h1⟩ | ⟨h, h1⟩ | ⟨h, h1⟩ <;> rcases q with ⟨q, q1⟩ | ⟨q, q1⟩ | ⟨q, q1⟩ | ⟨q, q1⟩ | ⟨q, q1⟩ <;> first | omega | exact h1.det q1 | rw [h1, q1]
theorem ResR.condT {x : Nd} {v : Int} {ts : List Int} {k r t : Int} (h : k = 19) (ht : t > 0) (e : t = tA ts 0) (hr : r = tA ts 1) : ResR x v ts k r := .cond h (by rw [if_pos (by omega)]; exact hr)
theorem ResR.condF {x : Nd} {v : Int} {ts : List Int} {k r t : Int} (h : k = 19) (ht : ¬ t > 0) (e : t = tA ts 0) (hr : r = tA ts 2) : ResR x v ts k r := .cond h (by rw [if_neg (by omega)]; exact hr)
theorem needs_len {ts : List Int} {k : Int} (hl : (ts.length : Int) = needs k) : (11 ≤ k → 0 < ts.length) ∧ (13 ≤ k → 1 < ts.length) ∧ (19 ≤ k → 2 < ts.length) := by
  unfold needs at hl; repeat' split at hl
  all_goals omega

set_option maxHeartbeats 1000000 in
set_option maxRecDepth 100000 in
theorem result_spec {lo hi l2 h2 : Nat} (a a2 : Option Addr) (c n2 c2 : Nat) (x : Nd) (k v : Int) (ts : List Int) (w : World) (hx : Ints lo hi w a c x.near) (hm : x.near.length ≤ 6) (hr : ∀ y ∈ x.near, -1000000 ≤ y ∧ y ≤ 1000000) (hk : 1 ≤ k ∧ k ≤ 19) (hn : n2 = ts.length) (ht : Ints l2 h2 w a2 c2 ts) (hl : (ts.length : Int) = needs k) (hts : ∀ y ∈ ts, -1000000 ≤ y ∧ y ≤ 1000000) :
    Fn Try.prog 111 #[ndV a c x, .agg #[VI k, VI v], .slice a2 n2 c2] w (fun u w' => ∃ r, u = VI r ∧ ResR x v ts k r ∧ Ext w w') := by
  subst hn
  have hnl := needs_len hl
  have hE := Ext.refl w
  refine Fn_of Try.func111 rfl rfl (by kernel_rfl) rfl ?_
  refine W_seq ?_
  refine W_region ?_
  refine WL_m rfl (ev_box rfl) ?_
  rintro _ w3 ⟨rfl, hN3⟩
  have hz3 := hN3.size
  replace hE := hE.trans hN3.ext
  replace hx := hx.ext hN3.ext
  replace ht := ht.ext hN3.ext
  have hB3 : Blk w3 _ _ [_, _, _, _, _] := hN3.blk
  refine WL_m rfl (ev_box rfl) ?_
  rintro _ w4 ⟨rfl, hN4⟩
  have hz4 := hN4.size
  replace hE := hE.trans hN4.ext
  replace hx := hx.ext hN4.ext
  replace ht := ht.ext hN4.ext
  replace hB3 := hB3.ext hN4.ext
  have hB4 : Blk w4 _ _ [_, _] := hN4.blk
  refine WL_m rfl (ev_box rfl) ?_
  rintro _ w5 ⟨rfl, hN5⟩
  have hz5 := hN5.size
  replace hE := hE.trans hN5.ext
  replace hx := hx.ext hN5.ext
  replace ht := ht.ext hN5.ext
  replace hB3 := hB3.ext hN5.ext
  replace hB4 := hB4.ext hN5.ext
  have hB5 : Blk w5 _ _ [_] := hN5.blk
  refine WL_q rfl (ev_assign rfl) ?_
  refine WL_nil ?_
  refine thenE_n ?_
  refine W_seq ?_
  refine W_seq ?_
  refine W_region ?_
  refine WL_q rfl (ev_fieldAddr fo92_0 rfl) ?_
  refine WL_q rfl (ev_load one3 rfl (hB4.cell rfl)) ?_
  refine WL_nil ?_
  refine thenE_n ?_
  refine W_block ?_
  refine W_seq ?_
  refine W_region ?_
  refine WL_q rfl (ev_eql rfl rfl) ?_
  refine WL_q rfl (ev_assign rfl) ?_
  refine WL_nil ?_
  refine thenE_n ?_
  refine W_cond rfl (fun hg10 => ?_) (fun hg10 => ?_)
  · have hp10 := of_decide_eq_true hg10
    refine W_seq ?_
    refine W_region ?_
    refine WL_q rfl (ev_loads st97 sz97 rfl (cellsB hB3) rfl) ?_
    refine WL_q rfl (ev_makeFunc rfl rfl) ?_
    refine WL_m rfl (ev_call rfl (countIf_spec a c x _ [_] (fun y => decide (y = ts.headD 0)) _ hx (by omega) (fun i h w1 hw => result_1 _ _ _ _ _ _ ts w1 (hB5.ext hw) rfl (ht.ext hw) (by omega)))) ?_
    rintro _ w13 ⟨rfl, hE13⟩
    have hz13 := hE13.size
    replace hE := hE.trans hE13
    replace hx := hx.ext hE13
    replace ht := ht.ext hE13
    replace hB3 := hB3.ext hE13
    replace hB4 := hB4.ext hE13
    replace hB5 := hB5.ext hE13
    refine WL_q rfl (ev_assign rfl) ?_
    refine WL_nil ?_
    refine thenE_n ?_
    refine W_ret ?_
    refine blockE_r ?_
    refine thenE_r ?_
    refine ret1 rfl rfl ?_
    first | (exact ⟨_, rfl, .look (by omega) hr89, hE⟩) | (exact ⟨_, rfl, .count hp10 (by rw [tA_head]), hE⟩) | (exact ⟨_, rfl, .below hp15 (by rw [tA_head]), hE⟩) | (exact ⟨_, rfl, .condT hp76 hp80 e0 e1, hE⟩) | (exact ⟨_, rfl, .condF hp76 hp80 e0 e2, hE⟩) | (exact ⟨_, rfl, .two (by omega) (by simp_all [two]), hE⟩)
  · have hp10 := of_decide_eq_false hg10
    refine W_seq ?_
    refine W_region ?_
    refine WL_q rfl (ev_eql rfl rfl) ?_
    refine WL_q rfl (ev_assign rfl) ?_
    refine WL_nil ?_
    refine thenE_n ?_
    refine W_cond rfl (fun hg15 => ?_) (fun hg15 => ?_)
    · have hp15 := of_decide_eq_true hg15
      refine W_seq ?_
      refine W_region ?_
      refine WL_q rfl (ev_loads st97 sz97 rfl (cellsB hB3) rfl) ?_
      refine WL_q rfl (ev_makeFunc rfl rfl) ?_
      refine WL_m rfl (ev_call rfl (countIf_spec a c x _ [_] (fun y => decide (y < ts.headD 0)) _ hx (by omega) (fun i h w1 hw => result_2 _ _ _ _ _ _ ts w1 (hB5.ext hw) rfl (ht.ext hw) (by omega)))) ?_
      rintro _ w18 ⟨rfl, hE18⟩
      have hz18 := hE18.size
      replace hE := hE.trans hE18
      replace hx := hx.ext hE18
      replace ht := ht.ext hE18
      replace hB3 := hB3.ext hE18
      replace hB4 := hB4.ext hE18
      replace hB5 := hB5.ext hE18
      refine WL_q rfl (ev_assign rfl) ?_
      refine WL_nil ?_
      refine thenE_n ?_
      refine W_ret ?_
      refine blockE_r ?_
      refine thenE_r ?_
      refine ret1 rfl rfl ?_
      first | (exact ⟨_, rfl, .look (by omega) hr89, hE⟩) | (exact ⟨_, rfl, .count hp10 (by rw [tA_head]), hE⟩) | (exact ⟨_, rfl, .below hp15 (by rw [tA_head]), hE⟩) | (exact ⟨_, rfl, .condT hp76 hp80 e0 e1, hE⟩) | (exact ⟨_, rfl, .condF hp76 hp80 e0 e2, hE⟩) | (exact ⟨_, rfl, .two (by omega) (by simp_all [two]), hE⟩)
    · have hp15 := of_decide_eq_false hg15
      refine W_seq ?_
      refine W_region ?_
      refine WL_q rfl (ev_eql rfl rfl) ?_
      refine WL_q rfl (ev_assign rfl) ?_
      refine WL_nil ?_
      refine thenE_n ?_
      refine W_cond rfl (fun hg20 => ?_) (fun hg20 => ?_)
      · have hp20 := of_decide_eq_true hg20
        refine W_seq ?_
        refine W_drawE [(0, true), (1, true), (2, true), (3, true), (4, true), (5, true), (6, true), (7, true)] mixed (by kernel_rfl) rfl (by kernel_rfl) ?_
        intro wd7 hEd7 hzd7
        replace hE := hE.trans hEd7
        replace hx := hx.ext hEd7
        replace ht := ht.ext hEd7
        replace hB3 := hB3.ext hEd7
        replace hB4 := hB4.ext hEd7
        replace hB5 := hB5.ext hEd7
        have hDd7 := Ext.refl wd7
        refine PW_q rfl rfl (fun wq hq => ev_load one23 rfl (hq.cell (hB5.cell rfl))) ?_
        have e0 := tA_get (ts := ts) (i := 0) (by omega)
        have e1 := tA_get (ts := ts) (i := 1) (by omega)
        have b0 := hts _ (List.getElem_mem (show 0 < ts.length by omega))
        have b1 := hts _ (List.getElem_mem (show 1 < ts.length by omega))
        refine PW_q rfl rfl (fun wq hq => ev_indexAddr Try.underlying23 sz3 rfl rfl (ht.isSome (by omega)) (by omega) (by omega)) ?_
        have hc23 := ht.cell (i := 0) (by omega)
        refine PW_q rfl rfl (fun wq hq => ev_load one3 rfl (hq.cell (hc23))) ?_
        refine PW_q rfl rfl (fun wq hq => ev_load one23 rfl (hq.cell (hB5.cell rfl))) ?_
        refine PW_q rfl rfl (fun wq hq => ev_indexAddr Try.underlying23 sz3 rfl rfl (ht.isSome (by omega)) (by omega) (by omega)) ?_
        have hc26 := ht.cell (i := 1) (by omega)
        refine PW_q rfl rfl (fun wq hq => ev_load one3 rfl (hq.cell (hc26))) ?_
        refine PW_q rfl rfl (fun wq hq => ev_add rfl rfl (by omega)) ?_
        refine PW_q rfl rfl (fun wq hq => ev_assign rfl) ?_
        refine PW_nil ?_
        refine thenE_n ?_
        refine W_ret ?_
        refine blockE_r ?_
        refine thenE_r ?_
        refine ret1 rfl rfl ?_
        first | (exact ⟨_, rfl, .look (by omega) hr89, hE⟩) | (exact ⟨_, rfl, .count hp10 (by rw [tA_head]), hE⟩) | (exact ⟨_, rfl, .below hp15 (by rw [tA_head]), hE⟩) | (exact ⟨_, rfl, .condT hp76 hp80 e0 e1, hE⟩) | (exact ⟨_, rfl, .condF hp76 hp80 e0 e2, hE⟩) | (exact ⟨_, rfl, .two (by omega) (by simp_all [two]), hE⟩)
      · have hp20 := of_decide_eq_false hg20
        refine W_seq ?_
        refine W_region ?_
        refine WL_q rfl (ev_eql rfl rfl) ?_
        refine WL_q rfl (ev_assign rfl) ?_
        refine WL_nil ?_
        refine thenE_n ?_
        refine W_cond rfl (fun hg29 => ?_) (fun hg29 => ?_)
        · have hp29 := of_decide_eq_true hg29
          refine W_seq ?_
          refine W_drawE [(0, true), (1, true), (2, true), (3, true), (4, true), (5, true), (6, true), (7, true)] mixed (by kernel_rfl) rfl (by kernel_rfl) ?_
          intro wd9 hEd9 hzd9
          replace hE := hE.trans hEd9
          replace hx := hx.ext hEd9
          replace ht := ht.ext hEd9
          replace hB3 := hB3.ext hEd9
          replace hB4 := hB4.ext hEd9
          replace hB5 := hB5.ext hEd9
          have hDd9 := Ext.refl wd9
          refine PW_q rfl rfl (fun wq hq => ev_load one23 rfl (hq.cell (hB5.cell rfl))) ?_
          have e0 := tA_get (ts := ts) (i := 0) (by omega)
          have e1 := tA_get (ts := ts) (i := 1) (by omega)
          have b0 := hts _ (List.getElem_mem (show 0 < ts.length by omega))
          have b1 := hts _ (List.getElem_mem (show 1 < ts.length by omega))
          refine PW_q rfl rfl (fun wq hq => ev_indexAddr Try.underlying23 sz3 rfl rfl (ht.isSome (by omega)) (by omega) (by omega)) ?_
          have hc32 := ht.cell (i := 0) (by omega)
          refine PW_q rfl rfl (fun wq hq => ev_load one3 rfl (hq.cell (hc32))) ?_
          refine PW_q rfl rfl (fun wq hq => ev_load one23 rfl (hq.cell (hB5.cell rfl))) ?_
          refine PW_q rfl rfl (fun wq hq => ev_indexAddr Try.underlying23 sz3 rfl rfl (ht.isSome (by omega)) (by omega) (by omega)) ?_
          have hc35 := ht.cell (i := 1) (by omega)
          refine PW_q rfl rfl (fun wq hq => ev_load one3 rfl (hq.cell (hc35))) ?_
          refine PW_q rfl rfl (fun wq hq => ev_sub rfl rfl (by omega)) ?_
          refine PW_q rfl rfl (fun wq hq => ev_assign rfl) ?_
          refine PW_nil ?_
          refine thenE_n ?_
          refine W_ret ?_
          refine blockE_r ?_
          refine thenE_r ?_
          refine ret1 rfl rfl ?_
          first | (exact ⟨_, rfl, .look (by omega) hr89, hE⟩) | (exact ⟨_, rfl, .count hp10 (by rw [tA_head]), hE⟩) | (exact ⟨_, rfl, .below hp15 (by rw [tA_head]), hE⟩) | (exact ⟨_, rfl, .condT hp76 hp80 e0 e1, hE⟩) | (exact ⟨_, rfl, .condF hp76 hp80 e0 e2, hE⟩) | (exact ⟨_, rfl, .two (by omega) (by simp_all [two]), hE⟩)
        · have hp29 := of_decide_eq_false hg29
          refine W_seq ?_
          refine W_region ?_
          refine WL_q rfl (ev_eql rfl rfl) ?_
          refine WL_q rfl (ev_assign rfl) ?_
          refine WL_nil ?_
          refine thenE_n ?_
          refine W_cond rfl (fun hg38 => ?_) (fun hg38 => ?_)
          · have hp38 := of_decide_eq_true hg38
            refine W_seq ?_
            refine W_drawE [(0, true), (1, true), (2, true), (3, true), (4, true), (5, true), (6, true), (7, true)] mixed (by kernel_rfl) rfl (by kernel_rfl) ?_
            intro wd11 hEd11 hzd11
            replace hE := hE.trans hEd11
            replace hx := hx.ext hEd11
            replace ht := ht.ext hEd11
            replace hB3 := hB3.ext hEd11
            replace hB4 := hB4.ext hEd11
            replace hB5 := hB5.ext hEd11
            have hDd11 := Ext.refl wd11
            refine PW_q rfl rfl (fun wq hq => ev_load one23 rfl (hq.cell (hB5.cell rfl))) ?_
            have e0 := tA_get (ts := ts) (i := 0) (by omega)
            have e1 := tA_get (ts := ts) (i := 1) (by omega)
            have b0 := hts _ (List.getElem_mem (show 0 < ts.length by omega))
            have b1 := hts _ (List.getElem_mem (show 1 < ts.length by omega))
            refine PW_q rfl rfl (fun wq hq => ev_indexAddr Try.underlying23 sz3 rfl rfl (ht.isSome (by omega)) (by omega) (by omega)) ?_
            have hc41 := ht.cell (i := 0) (by omega)
            refine PW_q rfl rfl (fun wq hq => ev_load one3 rfl (hq.cell (hc41))) ?_
            refine PW_q rfl rfl (fun wq hq => ev_load one23 rfl (hq.cell (hB5.cell rfl))) ?_
            refine PW_q rfl rfl (fun wq hq => ev_indexAddr Try.underlying23 sz3 rfl rfl (ht.isSome (by omega)) (by omega) (by omega)) ?_
            have hc44 := ht.cell (i := 1) (by omega)
            refine PW_q rfl rfl (fun wq hq => ev_load one3 rfl (hq.cell (hc44))) ?_
            refine PW_q rfl rfl (fun wq hq => ev_min rfl rfl) ?_
            refine PW_q rfl rfl (fun wq hq => ev_assign rfl) ?_
            refine PW_nil ?_
            refine thenE_n ?_
            refine W_ret ?_
            refine blockE_r ?_
            refine thenE_r ?_
            refine ret1 rfl rfl ?_
            first | (exact ⟨_, rfl, .look (by omega) hr89, hE⟩) | (exact ⟨_, rfl, .count hp10 (by rw [tA_head]), hE⟩) | (exact ⟨_, rfl, .below hp15 (by rw [tA_head]), hE⟩) | (exact ⟨_, rfl, .condT hp76 hp80 e0 e1, hE⟩) | (exact ⟨_, rfl, .condF hp76 hp80 e0 e2, hE⟩) | (exact ⟨_, rfl, .two (by omega) (by simp_all [two]), hE⟩)
          · have hp38 := of_decide_eq_false hg38
            refine W_seq ?_
            refine W_region ?_
            refine WL_q rfl (ev_eql rfl rfl) ?_
            refine WL_q rfl (ev_assign rfl) ?_
            refine WL_nil ?_
            refine thenE_n ?_
            refine W_cond rfl (fun hg47 => ?_) (fun hg47 => ?_)
            · have hp47 := of_decide_eq_true hg47
              refine W_seq ?_
              refine W_drawE [(0, true), (1, true), (2, true), (3, true), (4, true), (5, true), (6, true), (7, true)] mixed (by kernel_rfl) rfl (by kernel_rfl) ?_
              intro wd13 hEd13 hzd13
              replace hE := hE.trans hEd13
              replace hx := hx.ext hEd13
              replace ht := ht.ext hEd13
              replace hB3 := hB3.ext hEd13
              replace hB4 := hB4.ext hEd13
              replace hB5 := hB5.ext hEd13
              have hDd13 := Ext.refl wd13
              refine PW_q rfl rfl (fun wq hq => ev_load one23 rfl (hq.cell (hB5.cell rfl))) ?_
              have e0 := tA_get (ts := ts) (i := 0) (by omega)
              have e1 := tA_get (ts := ts) (i := 1) (by omega)
              have b0 := hts _ (List.getElem_mem (show 0 < ts.length by omega))
              have b1 := hts _ (List.getElem_mem (show 1 < ts.length by omega))
              refine PW_q rfl rfl (fun wq hq => ev_indexAddr Try.underlying23 sz3 rfl rfl (ht.isSome (by omega)) (by omega) (by omega)) ?_
              have hc50 := ht.cell (i := 0) (by omega)
              refine PW_q rfl rfl (fun wq hq => ev_load one3 rfl (hq.cell (hc50))) ?_
              refine PW_q rfl rfl (fun wq hq => ev_load one23 rfl (hq.cell (hB5.cell rfl))) ?_
              refine PW_q rfl rfl (fun wq hq => ev_indexAddr Try.underlying23 sz3 rfl rfl (ht.isSome (by omega)) (by omega) (by omega)) ?_
              have hc53 := ht.cell (i := 1) (by omega)
              refine PW_q rfl rfl (fun wq hq => ev_load one3 rfl (hq.cell (hc53))) ?_
              refine PW_q rfl rfl (fun wq hq => ev_max rfl rfl) ?_
              refine PW_q rfl rfl (fun wq hq => ev_assign rfl) ?_
              refine PW_nil ?_
              refine thenE_n ?_
              refine W_ret ?_
              refine blockE_r ?_
              refine thenE_r ?_
              refine ret1 rfl rfl ?_
              first | (exact ⟨_, rfl, .look (by omega) hr89, hE⟩) | (exact ⟨_, rfl, .count hp10 (by rw [tA_head]), hE⟩) | (exact ⟨_, rfl, .below hp15 (by rw [tA_head]), hE⟩) | (exact ⟨_, rfl, .condT hp76 hp80 e0 e1, hE⟩) | (exact ⟨_, rfl, .condF hp76 hp80 e0 e2, hE⟩) | (exact ⟨_, rfl, .two (by omega) (by simp_all [two]), hE⟩)
            · have hp47 := of_decide_eq_false hg47
              refine W_seq ?_
              refine W_region ?_
              refine WL_q rfl (ev_eql rfl rfl) ?_
              refine WL_q rfl (ev_assign rfl) ?_
              refine WL_nil ?_
              refine thenE_n ?_
              refine W_cond rfl (fun hg56 => ?_) (fun hg56 => ?_)
              · have hp56 := of_decide_eq_true hg56
                refine W_seq ?_
                refine W_drawE [(0, true), (1, true), (2, true), (3, true), (4, true), (5, true), (6, true), (7, false), (8, true)] mixed (by kernel_rfl) rfl (by kernel_rfl) ?_
                intro wd15 hEd15 hzd15
                replace hE := hE.trans hEd15
                replace hx := hx.ext hEd15
                replace ht := ht.ext hEd15
                replace hB3 := hB3.ext hEd15
                replace hB4 := hB4.ext hEd15
                replace hB5 := hB5.ext hEd15
                have hDd15 := Ext.refl wd15
                refine PW_q rfl rfl (fun wq hq => ev_load one23 rfl (hq.cell (hB5.cell rfl))) ?_
                have e0 := tA_get (ts := ts) (i := 0) (by omega)
                have e1 := tA_get (ts := ts) (i := 1) (by omega)
                have b0 := hts _ (List.getElem_mem (show 0 < ts.length by omega))
                have b1 := hts _ (List.getElem_mem (show 1 < ts.length by omega))
                refine PW_q rfl rfl (fun wq hq => ev_indexAddr Try.underlying23 sz3 rfl rfl (ht.isSome (by omega)) (by omega) (by omega)) ?_
                have hc59 := ht.cell (i := 0) (by omega)
                refine PW_q rfl rfl (fun wq hq => ev_load one3 rfl (hq.cell (hc59))) ?_
                refine PW_q rfl rfl (fun wq hq => ev_load one23 rfl (hq.cell (hB5.cell rfl))) ?_
                refine PW_q rfl rfl (fun wq hq => ev_indexAddr Try.underlying23 sz3 rfl rfl (ht.isSome (by omega)) (by omega) (by omega)) ?_
                have hc62 := ht.cell (i := 1) (by omega)
                refine PW_q rfl rfl (fun wq hq => ev_load one3 rfl (hq.cell (hc62))) ?_
                refine PW_q rfl rfl (fun wq hq => ev_lss rfl rfl) ?_
                refine PW_m rfl rfl (ev_call rfl (oneIf_spec _ _)) ?_
                rintro _ w64 ⟨rfl, hE64⟩
                have hz64 := hE64.size
                replace hE := hE.trans hE64
                replace hDd15 := hDd15.trans hE64
                refine ⟨hDd15, ?_⟩
                refine PW_q rfl rfl (fun wq hq => ev_assign rfl) ?_
                replace hx := hx.ext hDd15
                replace ht := ht.ext hDd15
                replace hB3 := hB3.ext hDd15
                replace hB4 := hB4.ext hDd15
                replace hB5 := hB5.ext hDd15
                refine PW_nil ?_
                refine thenE_n ?_
                refine W_ret ?_
                refine blockE_r ?_
                refine thenE_r ?_
                refine ret1 rfl rfl ?_
                first | (exact ⟨_, rfl, .look (by omega) hr89, hE⟩) | (exact ⟨_, rfl, .count hp10 (by rw [tA_head]), hE⟩) | (exact ⟨_, rfl, .below hp15 (by rw [tA_head]), hE⟩) | (exact ⟨_, rfl, .condT hp76 hp80 e0 e1, hE⟩) | (exact ⟨_, rfl, .condF hp76 hp80 e0 e2, hE⟩) | (exact ⟨_, rfl, .two (by omega) (by simp_all [two]), hE⟩)
              · have hp56 := of_decide_eq_false hg56
                refine W_seq ?_
                refine W_region ?_
                refine WL_q rfl (ev_eql rfl rfl) ?_
                refine WL_q rfl (ev_assign rfl) ?_
                refine WL_nil ?_
                refine thenE_n ?_
                refine W_cond rfl (fun hg66 => ?_) (fun hg66 => ?_)
                · have hp66 := of_decide_eq_true hg66
                  refine W_seq ?_
                  refine W_drawE [(0, true), (1, true), (2, true), (3, true), (4, true), (5, true), (6, true), (7, false), (8, true)] mixed (by kernel_rfl) rfl (by kernel_rfl) ?_
                  intro wd17 hEd17 hzd17
                  replace hE := hE.trans hEd17
                  replace hx := hx.ext hEd17
                  replace ht := ht.ext hEd17
                  replace hB3 := hB3.ext hEd17
                  replace hB4 := hB4.ext hEd17
                  replace hB5 := hB5.ext hEd17
                  have hDd17 := Ext.refl wd17
                  refine PW_q rfl rfl (fun wq hq => ev_load one23 rfl (hq.cell (hB5.cell rfl))) ?_
                  have e0 := tA_get (ts := ts) (i := 0) (by omega)
                  have e1 := tA_get (ts := ts) (i := 1) (by omega)
                  have b0 := hts _ (List.getElem_mem (show 0 < ts.length by omega))
                  have b1 := hts _ (List.getElem_mem (show 1 < ts.length by omega))
                  refine PW_q rfl rfl (fun wq hq => ev_indexAddr Try.underlying23 sz3 rfl rfl (ht.isSome (by omega)) (by omega) (by omega)) ?_
                  have hc69 := ht.cell (i := 0) (by omega)
                  refine PW_q rfl rfl (fun wq hq => ev_load one3 rfl (hq.cell (hc69))) ?_
                  refine PW_q rfl rfl (fun wq hq => ev_load one23 rfl (hq.cell (hB5.cell rfl))) ?_
                  refine PW_q rfl rfl (fun wq hq => ev_indexAddr Try.underlying23 sz3 rfl rfl (ht.isSome (by omega)) (by omega) (by omega)) ?_
                  have hc72 := ht.cell (i := 1) (by omega)
                  refine PW_q rfl rfl (fun wq hq => ev_load one3 rfl (hq.cell (hc72))) ?_
                  refine PW_q rfl rfl (fun wq hq => ev_eql rfl rfl) ?_
                  refine PW_m rfl rfl (ev_call rfl (oneIf_spec _ _)) ?_
                  rintro _ w74 ⟨rfl, hE74⟩
                  have hz74 := hE74.size
                  replace hE := hE.trans hE74
                  replace hDd17 := hDd17.trans hE74
                  refine ⟨hDd17, ?_⟩
                  refine PW_q rfl rfl (fun wq hq => ev_assign rfl) ?_
                  replace hx := hx.ext hDd17
                  replace ht := ht.ext hDd17
                  replace hB3 := hB3.ext hDd17
                  replace hB4 := hB4.ext hDd17
                  replace hB5 := hB5.ext hDd17
                  refine PW_nil ?_
                  refine thenE_n ?_
                  refine W_ret ?_
                  refine blockE_r ?_
                  refine thenE_r ?_
                  refine ret1 rfl rfl ?_
                  first | (exact ⟨_, rfl, .look (by omega) hr89, hE⟩) | (exact ⟨_, rfl, .count hp10 (by rw [tA_head]), hE⟩) | (exact ⟨_, rfl, .below hp15 (by rw [tA_head]), hE⟩) | (exact ⟨_, rfl, .condT hp76 hp80 e0 e1, hE⟩) | (exact ⟨_, rfl, .condF hp76 hp80 e0 e2, hE⟩) | (exact ⟨_, rfl, .two (by omega) (by simp_all [two]), hE⟩)
                · have hp66 := of_decide_eq_false hg66
                  refine W_seq ?_
                  refine W_region ?_
                  refine WL_q rfl (ev_eql rfl rfl) ?_
                  refine WL_q rfl (ev_assign rfl) ?_
                  refine WL_nil ?_
                  refine thenE_n ?_
                  refine W_cond rfl (fun hg76 => ?_) (fun hg76 => ?_)
                  · have hp76 := of_decide_eq_true hg76
                    refine W_seq ?_
                    refine W_seq ?_
                    refine W_region ?_
                    refine WL_q rfl (ev_load one23 rfl (hB5.cell rfl)) ?_
                    have e0 := tA_get (ts := ts) (i := 0) (by omega)
                    have e1 := tA_get (ts := ts) (i := 1) (by omega)
                    have e2 := tA_get (ts := ts) (i := 2) (by omega)
                    refine WL_q rfl (ev_indexAddr Try.underlying23 sz3 rfl rfl (ht.isSome (by omega)) (by omega) (by omega)) ?_
                    refine WL_q rfl (ev_load one3 rfl (ht.cell (i := 0) (by omega))) ?_
                    refine WL_q rfl (ev_gtr rfl rfl) ?_
                    refine WL_nil ?_
                    refine thenE_n ?_
                    refine W_cond rfl (fun hg80 => ?_) (fun hg80 => ?_)
                    · have hp80 := of_decide_eq_true hg80
                      refine W_seq ?_
                      refine W_region ?_
                      refine WL_q rfl (ev_load one23 rfl (hB5.cell rfl)) ?_
                      refine WL_q rfl (ev_indexAddr Try.underlying23 sz3 rfl rfl (ht.isSome (by omega)) (by omega) (by omega)) ?_
                      refine WL_q rfl (ev_load one3 rfl (ht.cell (i := 1) (by omega))) ?_
                      refine WL_q rfl (ev_assign rfl) ?_
                      refine WL_nil ?_
                      refine thenE_n ?_
                      refine W_ret ?_
                      refine thenE_r ?_
                      refine blockE_r ?_
                      refine thenE_r ?_
                      refine ret1 rfl rfl ?_
                      first | (exact ⟨_, rfl, .look (by omega) hr89, hE⟩) | (exact ⟨_, rfl, .count hp10 (by rw [tA_head]), hE⟩) | (exact ⟨_, rfl, .below hp15 (by rw [tA_head]), hE⟩) | (exact ⟨_, rfl, .condT hp76 hp80 e0 e1, hE⟩) | (exact ⟨_, rfl, .condF hp76 hp80 e0 e2, hE⟩) | (exact ⟨_, rfl, .two (by omega) (by simp_all [two]), hE⟩)
                    · have hp80 := of_decide_eq_false hg80
                      refine W_skip ?_
                      refine thenE_n ?_
                      refine W_seq ?_
                      refine W_region ?_
                      refine WL_q rfl (ev_load one23 rfl (hB5.cell rfl)) ?_
                      refine WL_q rfl (ev_indexAddr Try.underlying23 sz3 rfl rfl (ht.isSome (by omega)) (by omega) (by omega)) ?_
                      refine WL_q rfl (ev_load one3 rfl (ht.cell (i := 2) (by omega))) ?_
                      refine WL_q rfl (ev_assign rfl) ?_
                      refine WL_nil ?_
                      refine thenE_n ?_
                      refine W_ret ?_
                      refine blockE_r ?_
                      refine thenE_r ?_
                      refine ret1 rfl rfl ?_
                      first | (exact ⟨_, rfl, .look (by omega) hr89, hE⟩) | (exact ⟨_, rfl, .count hp10 (by rw [tA_head]), hE⟩) | (exact ⟨_, rfl, .below hp15 (by rw [tA_head]), hE⟩) | (exact ⟨_, rfl, .condT hp76 hp80 e0 e1, hE⟩) | (exact ⟨_, rfl, .condF hp76 hp80 e0 e2, hE⟩) | (exact ⟨_, rfl, .two (by omega) (by simp_all [two]), hE⟩)
                  · have hp76 := of_decide_eq_false hg76
                    refine W_skip ?_
                    refine blockE_n ?_
                    refine thenE_n ?_
                    refine W_seq ?_
                    refine W_region ?_
                    refine WL_q rfl (ev_loads st97 sz97 rfl (cellsB hB3) rfl) ?_
                    refine WL_q rfl (ev_loads st92 sz92 rfl (cellsB hB4) rfl) ?_
                    refine WL_m rfl (ev_call rfl (leaf_spec _ _ x k v _ hx (by omega) hr (by omega))) ?_
                    rintro _ w89 ⟨r89, rfl, hr89, hE89⟩
                    have hz89 := hE89.size
                    replace hE := hE.trans hE89
                    replace hx := hx.ext hE89
                    replace ht := ht.ext hE89
                    replace hB3 := hB3.ext hE89
                    replace hB4 := hB4.ext hE89
                    replace hB5 := hB5.ext hE89
                    refine WL_q rfl (ev_assign rfl) ?_
                    refine WL_nil ?_
                    refine thenE_n ?_
                    refine W_ret ?_
                    refine ret1 rfl rfl ?_
                    first | (exact ⟨_, rfl, .look (by omega) hr89, hE⟩) | (exact ⟨_, rfl, .count hp10 (by rw [tA_head]), hE⟩) | (exact ⟨_, rfl, .below hp15 (by rw [tA_head]), hE⟩) | (exact ⟨_, rfl, .condT hp76 hp80 e0 e1, hE⟩) | (exact ⟨_, rfl, .condF hp76 hp80 e0 e2, hE⟩) | (exact ⟨_, rfl, .two (by omega) (by simp_all [two]), hE⟩)

/-- One operation on the stack. -/
def StepR (x : Nd) (p : Int × Int) (st st' : List Int) : Prop := ∃ r, ResR x p.2 (st.drop (st.length - (needs p.1).toNat)) p.1 r ∧ st' = st.take (st.length - (needs p.1).toNat) ++ [clip r]
theorem StepR.det {x : Nd} {p : Int × Int} {st s1 s2 : List Int} (h : StepR x p st s1) (q : StepR x p st s2) : s1 = s2 := by
  obtain ⟨r, h1, h2⟩ := h
  obtain ⟨r', q1, q2⟩ := q
  rw [h2, q2, h1.det q1]
/-- The stack behind the first i operations. -/
inductive RunN (x : Nd) (l : List (Int × Int)) : Nat → List Int → Prop
  | zero : RunN x l 0 []
  | succ {i : Nat} {st st' : List Int} (h : RunN x l i st) (hi : i < l.length) (hs : StepR x l[i] st st') : RunN x l (i + 1) st'
theorem RunN.det {x : Nd} {l : List (Int × Int)} {i : Nat} : ∀ {s1 s2 : List Int}, RunN x l i s1 → RunN x l i s2 → s1 = s2 := by
  induction i with
  | zero => intro s1 s2 h q; cases h; cases q; rfl
  | succ i ih =>
    intro s1 s2 h q
    cases h with
    | succ h hi hs =>
      cases q with
      | succ q _ qs => rw [ih h q] at hs; exact hs.det qs
theorem vRun_at {l : List (Int × Int)} (hv : vOk l = true) {i : Nat} (hi : i < l.length) {h : Int} (e : vRun 0 (l.take i) = some h) : inR l[i].1 1 19 = true ∧ needs l[i].1 ≤ h ∧ vRun 0 (l.take (i + 1)) = some (h + (1 - needs l[i].1)) := by
  by_cases hc : inR l[i].1 1 19 = true ∧ inR l[i].2 0 (if l[i].1 = 1 then 1000000 else 0) = true ∧ needs l[i].1 ≤ h
  · exact ⟨hc.1, hc.2.2, by rw [vRun_take_succ hi e]; exact vStep_some hc.1 hc.2.1 hc.2.2⟩
  · exact absurd hv (by rw [vOk_none hi e (vStep_none hc)]; simp)
theorem clip_bd (r : Int) : -1000000 ≤ clip r ∧ clip r ≤ 1000000 := by unfold clip; omega

theorem Ints.dropI {lo hi : Nat} {w : World} {a : Option Addr} {c : Nat} {xs : List Int} (h : Ints lo hi w a c xs) {k : Int} {i : Nat} (hk : k.toNat = i) (hi' : i ≤ xs.length) : Ints lo hi w (if c = k.toNat then a else a.map (·.add (k.toNat * 1))) (c - k.toNat) (xs.drop i) := by
  subst hk
  have hc := h.cap
  have hs := (Ints.sat h).drop c k.toNat (fun e => by simp; omega)
  rw [← List.map_drop] at hs
  refine ⟨by simp; omega, fun r hr => ?_, ?_⟩
  · obtain ⟨y, _, rfl⟩ := List.mem_map.1 hr; rfl
  · rw [ints_flat, Nat.mul_one]; exact hs

end Go.Proofs.Ytjnkkadbfigmpaa
