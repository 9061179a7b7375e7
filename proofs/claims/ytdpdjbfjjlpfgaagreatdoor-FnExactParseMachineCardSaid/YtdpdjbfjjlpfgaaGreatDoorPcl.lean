/- slices.Clone and slices.Repeat at []int. -/
import Derived.Shelf.Bits.Mul64
import Derived.Test.YtdpdjbfjjlpfgaaGreatDoorPlib
namespace Go.Proofs.YtdpdjbfjjlpfgaaGreatDoor
open Go Go.RowKit

theorem Ints.nil_of_none {lo hi : Nat} {w : World} {a : Option Addr} {c : Nat} {xs : List Int} (h : Ints lo hi w a c xs) (ha : a.isNone = true) : xs = [] := by
  rcases Nat.eq_zero_or_pos xs.length with h0 | h0
  · exact List.eq_nil_of_length_eq_zero h0
  · have := h.isSome h0
    rw [this] at ha; cases ha
theorem own_zadd {lo : Nat} {w : World} {E : TypeId} {a : Option Addr} {n c : Nat} {ds : List Value} (h : Own lo w E 1 a (0 + n) c (([] : List Value) ++ ds)) : Own lo w E 1 a n c ds := by rw [Nat.zero_add] at h; exact h

set_option maxRecDepth 100000 in
theorem Clone_int {lo hi : Nat} (a : Option Addr) (c : Nat) (xs : List Int) (w : World) (hx : Ints lo hi w a c xs) (hhi : hi ≤ w.heap.size) (hm : xs.length ≤ 1048576) :
    Fn Tryz.prog 34 #[.slice a xs.length c] w (fun v w' => ∃ a' c', v = .slice a' xs.length c' ∧ Own w.heap.size w' 3 1 a' xs.length c' (xs.map VI) ∧ Ext w w') := by
  have hE := Ext.refl w
  refine Fn_of Tryz.func34 rfl rfl (by kernel_rfl) rfl ?_
  refine W_seq ?_
  refine W_region ?_
  refine WL_q rfl (ev_assign rfl) ?_
  refine WL_nil ?_
  refine thenE_n ?_
  refine W_seq ?_
  refine W_seq ?_
  refine W_region ?_
  refine WL_q rfl (ev_move rfl) ?_
  refine WL_q rfl (ev_eql_nil Tryz.underlying24 rfl rfl) ?_
  refine WL_nil ?_
  refine thenE_n ?_
  refine W_cond rfl (fun hg4 => ?_) (fun hg4 => ?_)
  · refine W_seq ?_
    refine W_region ?_
    refine WL_q rfl (ev_assign rfl) ?_
    refine WL_nil ?_
    refine thenE_n ?_
    refine W_ret ?_
    refine thenE_r ?_
    refine ret1 rfl rfl ?_
    obtain rfl := Ints.nil_of_none hx hg4; exact ⟨none, 0, rfl, Own.nil _ _ _ _, hE⟩
  · refine W_skip ?_
    refine thenE_n ?_
    refine W_seq ?_
    refine W_region ?_
    refine WL_m rfl (ev_lit0 Tryz.underlying24 el3) ?_
    rintro _ w5 ⟨rfl, hN5⟩
    have hz5 := hN5.size
    replace hE := hE.trans hN5.ext
    replace hx := hx.ext hN5.ext
    have hB5 := hN5.blk
    have hO5 := Own.of_new (n := 0) (sz := 1) hN5 rfl (by decide)
    refine WL_q rfl (ev_move rfl) ?_
    refine WL_m rfl (ev_append Tryz.underlying24 el3 rfl (by decide) rfl rfl hO5 hx.sat (by simp) (by simp [Value.oneCell']) (by omega) (by unfold maxLen; omega) (by omega)) ?_
    rintro _ w7 ⟨a7, c7, rfl, hO7, hK7, hQ7⟩
    have hz7 := hK7.size
    replace hE := hE.app hK7 (fun q hq => (hO5.block q hq).1)
    replace hx := hx.app hK7 (hO5) (by omega)
    replace hO5 := hO7
    refine WL_q rfl (ev_assign rfl) ?_
    refine WL_nil ?_
    refine thenE_n ?_
    refine W_ret ?_
    refine ret1 rfl rfl ?_
    exact ⟨a7, c7, by rw [Nat.zero_add], own_zadd hO5, hE⟩

open Go.Shelf in
def mulLays_ren : Go.Shelf.Ren := ⟨fun | 212 => 48 | 263 => 61 | 264 => 62 | n => n, fun | 46 => 72 | 51 => 91 | 146 => 92 | 53 => 94 | 148 => 95 | n => n, fun | n => n⟩
open Go.Shelf in
theorem mulLays : Go.Proofs.Lays.n212 Tryz.prog mulLays_ren := {
  mixed := by kernel_rfl
  f212 := Tryz.func48.trans (congrArg some (by kernel_rfl))
  f263 := Tryz.func61.trans (congrArg some (by kernel_rfl))
  f264 := Tryz.func62.trans (congrArg some (by kernel_rfl))
  t46 := Tryz.underlying72
  a46 := Tryz.isAgg72
  z46 := Tryz.sizeOf72
  v46 := Tryz.zeroValue72
  t51 := Tryz.underlying91
  a51 := Tryz.isAgg91
  z51 := Tryz.sizeOf91
  v51 := Tryz.zeroValue91
  t53 := Tryz.underlying94
  a53 := Tryz.isAgg94
  z53 := Tryz.sizeOf94
  v53 := Tryz.zeroValue94
  t146 := Tryz.underlying92
  a146 := Tryz.isAgg92
  z146 := Tryz.sizeOf92
  v146 := Tryz.zeroValue92
  t148 := Tryz.underlying95
  a148 := Tryz.isAgg95
  z148 := Tryz.sizeOf95
  v148 := Tryz.zeroValue95 }
theorem Mul_one (n : Nat) (w : World) (h : n ≤ 1048576) : Fn Tryz.prog 48 #[.int .u64 ((1 : Nat) : Int), .int .u64 (n : Int)] w (fun v w' => v = .tuple #[.int .u64 0, .int .u64 (n : Int)] ∧ w = w') := by
  refine ⟨by kernel_rfl, ?_⟩
  refine Calls.mono (Any.bits_Mul mulLays 1 n (by decide) (by omega) w) ?_
  rintro e w' ⟨rfl, rfl⟩
  refine ⟨_, rfl, ?_, rfl⟩
  rw [show 1 * n / 18446744073709551616 = 0 by omega, show 1 * n % 18446744073709551616 = n by omega]
  rfl

set_option maxRecDepth 100000 in
theorem Repeat_one {lo hi : Nat} (a : Option Addr) (c : Nat) (x : Int) (n : Nat) (w : World) (hx : Ints lo hi w a c [x]) (hhi : hi ≤ w.heap.size) (hn : n ≤ 1048576) (hn0 : 0 < n) :
    Fn Tryz.prog 36 #[.slice a 1 c, VI (n : Int)] w (fun v w' => v = .slice (some ⟨w.heap.size, 0, none⟩) n n ∧ Blk w' w.heap.size 3 ((List.replicate n x).map VI) ∧ Ext w w') := by
  have hE := Ext.refl w
  refine Fn_of Tryz.func36 rfl rfl (by kernel_rfl) rfl ?_
  refine W_seq ?_
  refine W_region ?_
  refine WL_q rfl (ev_assign rfl) ?_
  refine WL_nil ?_
  refine thenE_n ?_
  refine W_seq ?_
  refine W_seq ?_
  refine W_region ?_
  refine WL_q rfl (ev_move rfl) ?_
  refine WL_q rfl (ev_lss rfl rfl) ?_
  refine WL_nil ?_
  refine thenE_n ?_
  refine W_cond rfl (fun hg10 => ?_) (fun hg10 => ?_)
  · have hp10 := of_decide_eq_true hg10
    omega
  · have hp10 := of_decide_eq_false hg10
    refine W_skip ?_
    refine thenE_n ?_
    refine W_seq ?_
    refine W_region ?_
    refine WL_q rfl (ev_move rfl) ?_
    refine WL_q rfl (ev_len Tryz.underlying24 rfl) ?_
    refine WL_q rfl (ev_conv (by kernel_rfl) Tryz.underlying72 (by kernel_rfl) rfl (wrap_u0 1 (by omega))) ?_
    refine WL_q rfl (ev_move rfl) ?_
    refine WL_q rfl (ev_conv (by kernel_rfl) Tryz.underlying72 (by kernel_rfl) rfl (wrap_u0 _ (by omega))) ?_
    refine WL_m rfl (ev_call rfl (Mul_one n _ hn)) ?_
    rintro _ _ ⟨rfl, rfl⟩
    refine WL_q rfl (ev_move rfl) ?_
    refine WL_q rfl (ev_extract rfl rfl) ?_
    refine WL_q rfl (ev_extract rfl rfl) ?_
    refine WL_q rfl (ev_assign rfl) ?_
    refine WL_q rfl (ev_assign rfl) ?_
    refine WL_nil ?_
    refine thenE_n ?_
    refine W_seq ?_
    refine W_seq ?_
    refine W_region ?_
    refine WL_q rfl (ev_move rfl) ?_
    refine WL_q rfl (ev_gtr_u rfl rfl) ?_
    refine WL_q rfl (ev_move rfl) ?_
    refine WL_splitv (t := 23) rfl (fun hg22 => ?_) (fun hg22 => ?_)
    · have hp22 := of_decide_eq_true hg22
      omega
    · have hp22 := of_decide_eq_false hg22
      refine WL_qg rfl rfl hg22 rfl (ev_move rfl) ?_
      refine WL_qg rfl rfl hg22 rfl (ev_gtr_u rfl rfl) ?_
      refine WL_q rfl (ev_pick_f rfl hg22 rfl) ?_
      refine WL_nil ?_
      refine thenE_n ?_
      refine W_cond rfl (fun hg25 => ?_) (fun hg25 => ?_)
      · have hp25 := of_decide_eq_true hg25
        omega
      · have hp25 := of_decide_eq_false hg25
        refine W_skip ?_
        refine thenE_n ?_
        refine W_seq ?_
        refine W_region ?_
        refine WL_q rfl (ev_move rfl) ?_
        refine WL_q rfl (ev_conv (by kernel_rfl) Tryz.underlying3 (by kernel_rfl) rfl (wrap_i0 _ (by omega))) ?_
        refine WL_m rfl (ev_makeN Tryz.underlying24 el3 rfl rfl rfl (by omega) (by omega)) ?_
        rintro _ w30 ⟨rfl, hN30⟩
        have hz30 := hN30.size
        replace hE := hE.trans hN30.ext
        replace hx := hx.ext hN30.ext
        have hB30 := hN30.blk
        replace hB30 := rep_zero (x := x) hB30
        refine WL_q rfl (ev_assign rfl) ?_
        refine WL_nil ?_
        refine thenE_n ?_
        refine W_seq ?_
        refine W_region ?_
        refine WL_q rfl (ev_move rfl) ?_
        refine WL_q rfl (ev_move rfl) ?_
        refine WL_m rfl (ev_copy Tryz.underlying24 el3 rfl rfl hB30 (hx.sat : SAt _ _ _ _ ((List.replicate 1 x).map VI)) (by simp; omega) (by simp [rep]; omega) (ints_one _) (by simp)) ?_
        rintro _ w33 ⟨rfl, hS33⟩
        have hz33 := hS33.size
        replace hE := hE.sto hS33 (by omega)
        replace hx := hx.sto hS33 (by omega)
        replace hB30 := hS33.blk
        replace hB30 := rep_copy (m := 1) hB30 rfl (by omega)
        refine WL_q rfl (ev_assign rfl) ?_
        refine WL_nil ?_
        refine thenE_n ?_
        refine W_seq ?_
        refine W_block ?_
        refine W_loopC (G := Nat) [(7, _)] ((Subs.c rfl Subs.n)) (fun k => [(8, VI (k : Int))]) (fun k w' => KX (w.heap.size) w33 w' ∧ 1 ≤ k ∧ k ≤ n ∧ Blk w' w.heap.size 3 ((rep x n k).map VI)) (fun k => n - k) 1 ((Subs.c (lkI rfl (by simp)) Subs.n)) (⟨KX.refl _ _, ⟨by omega, by omega, hB30⟩⟩) ?_
        rintro k wL0 ⟨hRL0, hk1, hk2, hBk⟩
        have hzL0 := hRL0.size
        replace hx := hx.kx hRL0 (by omega)
        replace hE := hE.kx hRL0 (by omega)
        refine W_seq ?_
        refine W_seq ?_
        refine W_region ?_
        refine WL_q rfl (ev_move rfl) ?_
        refine WL_q rfl (ev_move rfl) ?_
        refine WL_q rfl (ev_len Tryz.underlying24 rfl) ?_
        refine WL_q rfl (ev_lss rfl rfl) ?_
        refine WL_nil ?_
        refine thenE_n ?_
        refine W_cond rfl (fun hg37 => ?_) (fun hg37 => ?_)
        · have hp37 := of_decide_eq_true hg37
          refine W_skip ?_
          refine thenE_n ?_
          refine W_block ?_
          refine W_drawK (w.heap.size) (fun w' => True) [(0, true), (1, true), (2, true), (3, true), (4, true), (5, true), (6, true), (7, false), (8, true), (9, true)] mixed (by kernel_rfl) rfl (by kernel_rfl) (fun _ _ => trivial) ?_
          intro wd9 hEd9 hzd9
          replace hE := hE.trans hEd9
          replace hRL0 := hRL0.trans hEd9
          replace hx := hx.ext hEd9
          replace hBk := hBk.ext hEd9
          have hDd9 := KX.refl (w.heap.size) wd9
          refine PW_q rfl rfl (fun wq hq => ev_move rfl) ?_
          refine PW_q rfl rfl (fun wq hq => ev_move rfl) ?_
          refine PW_q rfl rfl (fun wq hq => ev_move rfl) ?_
          refine PW_q rfl rfl (fun wq hq => ev_slice_at Tryz.underlying24 sz3 rfl rfl (by omega) (by omega) (by omega) (by omega)) ?_
          refine PW_q rfl rfl (fun wq hq => ev_move rfl) ?_
          refine PW_q rfl rfl (fun wq hq => ev_move rfl) ?_
          refine PW_q rfl rfl (fun wq hq => ev_slice_hi Tryz.underlying24 sz3 rfl rfl (by omega) (by omega)) ?_
          refine PW_m rfl rfl (ev_copy Tryz.underlying24 el3 rfl rfl hBk (rep_src (m := min k (n - k)) hBk (by omega)) (by simp) (by simp [rep]; omega) (ints_one _) (by simp; omega)) ?_
          rintro _ w45 ⟨rfl, hS45⟩
          have hz45 := hS45.size
          replace hE := hE.sto hS45 (by omega)
          replace hRL0 := hRL0.sto hS45 (by omega)
          replace hDd9 := hDd9.sto hS45 (by omega)
          replace hBk := hS45.blk
          replace hBk := rep_copy (m := min k (n - k)) hBk (by omega) (by omega)
          refine ⟨⟨hDd9, trivial⟩, ?_⟩
          refine PW_q rfl rfl (fun wq hq => ev_add rfl rfl (by simp; omega)) ?_
          refine PW_q rfl rfl (fun wq hq => ev_assign rfl) ?_
          replace hx := hx.kx hDd9 (by omega)
          refine PW_nil ?_
          refine blockE_n ?_
          refine thenE_n ?_
          exact ⟨k + min k (n - k), (Subs.c rfl Subs.n), (Subs.c (lkI rfl (by simp)) Subs.n), ⟨hRL0, ⟨by omega, by omega, hBk⟩⟩, by first | omega | (dsimp only; omega)⟩
        · have hp37 := of_decide_eq_false hg37
          refine W_exit ?_
          refine thenE_x ?_
          refine thenE_x ?_
          refine blockE_hit ?_
          refine thenE_n ?_
          refine W_seq ?_
          refine W_region ?_
          refine WL_q rfl (ev_move rfl) ?_
          refine WL_q rfl (ev_assign rfl) ?_
          refine WL_nil ?_
          refine thenE_n ?_
          refine W_ret ?_
          refine ret1 rfl rfl ?_
          have hk9 : k = n := by omega
          rw [rep_full (by omega), hk9] at hBk; exact ⟨rfl, hBk, hE⟩

set_option maxRecDepth 100000 in
theorem Repeat_zero {lo hi : Nat} (a : Option Addr) (c : Nat) (x : Int) (w : World) (hx : Ints lo hi w a c [x]) (hhi : hi ≤ w.heap.size) :
    Fn Tryz.prog 36 #[.slice a 1 c, VI ((0 : Nat) : Int)] w (fun v w' => v = .slice (some ⟨w.heap.size, 0, none⟩) 0 0 ∧ Blk w' w.heap.size 3 [] ∧ Ext w w') := by
  have hE := Ext.refl w
  refine Fn_of Tryz.func36 rfl rfl (by kernel_rfl) rfl ?_
  refine W_seq ?_
  refine W_region ?_
  refine WL_q rfl (ev_assign rfl) ?_
  refine WL_nil ?_
  refine thenE_n ?_
  refine W_seq ?_
  refine W_seq ?_
  refine W_region ?_
  refine WL_q rfl (ev_move rfl) ?_
  refine WL_q rfl (ev_lss rfl rfl) ?_
  refine WL_nil ?_
  refine thenE_n ?_
  refine W_cond rfl (fun hg10 => ?_) (fun hg10 => ?_)
  · have hp10 := of_decide_eq_true hg10
    omega
  · have hp10 := of_decide_eq_false hg10
    refine W_skip ?_
    refine thenE_n ?_
    refine W_seq ?_
    refine W_region ?_
    refine WL_q rfl (ev_move rfl) ?_
    refine WL_q rfl (ev_len Tryz.underlying24 rfl) ?_
    refine WL_q rfl (ev_conv (by kernel_rfl) Tryz.underlying72 (by kernel_rfl) rfl (wrap_u0 1 (by omega))) ?_
    refine WL_q rfl (ev_move rfl) ?_
    refine WL_q rfl (ev_conv (by kernel_rfl) Tryz.underlying72 (by kernel_rfl) rfl (wrap_u0 _ (by omega))) ?_
    refine WL_m rfl (ev_call rfl (Mul_one 0 _ (by omega))) ?_
    rintro _ _ ⟨rfl, rfl⟩
    refine WL_q rfl (ev_move rfl) ?_
    refine WL_q rfl (ev_extract rfl rfl) ?_
    refine WL_q rfl (ev_extract rfl rfl) ?_
    refine WL_q rfl (ev_assign rfl) ?_
    refine WL_q rfl (ev_assign rfl) ?_
    refine WL_nil ?_
    refine thenE_n ?_
    refine W_seq ?_
    refine W_seq ?_
    refine W_region ?_
    refine WL_q rfl (ev_move rfl) ?_
    refine WL_q rfl (ev_gtr_u rfl rfl) ?_
    refine WL_q rfl (ev_move rfl) ?_
    refine WL_splitv (t := 23) rfl (fun hg22 => ?_) (fun hg22 => ?_)
    · have hp22 := of_decide_eq_true hg22
      omega
    · have hp22 := of_decide_eq_false hg22
      refine WL_qg rfl rfl hg22 rfl (ev_move rfl) ?_
      refine WL_qg rfl rfl hg22 rfl (ev_gtr_u rfl rfl) ?_
      refine WL_q rfl (ev_pick_f rfl hg22 rfl) ?_
      refine WL_nil ?_
      refine thenE_n ?_
      refine W_cond rfl (fun hg25 => ?_) (fun hg25 => ?_)
      · have hp25 := of_decide_eq_true hg25
        omega
      · have hp25 := of_decide_eq_false hg25
        refine W_skip ?_
        refine thenE_n ?_
        refine W_seq ?_
        refine W_region ?_
        refine WL_q rfl (ev_move rfl) ?_
        refine WL_q rfl (ev_conv (by kernel_rfl) Tryz.underlying3 (by kernel_rfl) rfl (wrap_i0 _ (by omega))) ?_
        refine WL_m rfl (ev_makeN Tryz.underlying24 el3 rfl rfl rfl (by omega) (by omega)) ?_
        rintro _ w30 ⟨rfl, hN30⟩
        have hz30 := hN30.size
        replace hE := hE.trans hN30.ext
        replace hx := hx.ext hN30.ext
        have hB30 := hN30.blk
        refine WL_q rfl (ev_assign rfl) ?_
        refine WL_nil ?_
        refine thenE_n ?_
        refine W_seq ?_
        refine W_region ?_
        refine WL_q rfl (ev_move rfl) ?_
        refine WL_q rfl (ev_move rfl) ?_
        refine WL_m rfl (ev_copy Tryz.underlying24 el3 rfl rfl hB30 (SAt.nil : SAt 0 0 _ a []) (by simp) (by simp) (fun u hu => by cases hu) (by simp)) ?_
        rintro _ w33 ⟨rfl, hS33⟩
        have hz33 := hS33.size
        replace hE := hE.sto hS33 (by omega)
        replace hx := hx.sto hS33 (by omega)
        replace hB30 := hS33.blk
        refine WL_q rfl (ev_assign rfl) ?_
        refine WL_nil ?_
        refine thenE_n ?_
        refine W_seq ?_
        refine W_block ?_
        refine W_loopC (G := Nat) [(7, _)] ((Subs.c rfl Subs.n)) (fun k => [(8, VI (0 : Int))]) (fun k w' => Ext w33 w' ∧ Blk w' w.heap.size 3 []) (fun k => 0) 0 ((Subs.c (lkI rfl (by simp)) Subs.n)) (⟨Ext.refl _, hB30⟩) ?_
        rintro k wL0 ⟨hRL0, hBk⟩
        have hzL0 := hRL0.size
        replace hE := hE.trans hRL0
        replace hx := hx.ext hRL0
        replace hB30 := hB30.ext hRL0
        refine W_seq ?_
        refine W_seq ?_
        refine W_region ?_
        refine WL_q rfl (ev_move rfl) ?_
        refine WL_q rfl (ev_move rfl) ?_
        refine WL_q rfl (ev_len Tryz.underlying24 rfl) ?_
        refine WL_q rfl (ev_lss rfl rfl) ?_
        refine WL_nil ?_
        refine thenE_n ?_
        refine W_cond rfl (fun hg37 => ?_) (fun hg37 => ?_)
        · have hp37 := of_decide_eq_true hg37
          exfalso; omega
        · have hp37 := of_decide_eq_false hg37
          refine W_exit ?_
          refine thenE_x ?_
          refine thenE_x ?_
          refine blockE_hit ?_
          refine thenE_n ?_
          refine W_seq ?_
          refine W_region ?_
          refine WL_q rfl (ev_move rfl) ?_
          refine WL_q rfl (ev_assign rfl) ?_
          refine WL_nil ?_
          refine thenE_n ?_
          refine W_ret ?_
          refine ret1 rfl rfl ?_
          exact ⟨rfl, hBk, hE⟩

theorem Repeat_spec {lo hi : Nat} (a : Option Addr) (c : Nat) (x k : Int) (w : World) (hx : Ints lo hi w a c [x]) (hhi : hi ≤ w.heap.size) (h0 : 0 ≤ k ∧ k ≤ 1048576) : Fn Tryz.prog 36 #[.slice a 1 c, VI k] w (fun o9 w' => ∃ a' c', o9 = .slice a' (List.replicate k.toNat x).length c' ∧ OwnH w.heap.size w'.heap.size 0 0 w' 3 1 a' (List.replicate k.toNat x).length c' ((List.replicate k.toNat x).map VI) ∧ Ext w w') := by
  obtain ⟨n, rfl⟩ : ∃ n : Nat, k = (n : Int) := ⟨k.toNat, by omega⟩
  rw [Int.toNat_natCast]
  by_cases h : n = 0
  · subst h
    refine (Repeat_zero a c x w hx hhi).mono ?_
    rintro v w' ⟨rfl, hB, hE⟩
    refine ⟨_, _, rfl, ?_, hE⟩
    exact (Own.of_blk (cs := []) (rest := []) hB (Nat.le_refl _) (Nat.le_refl _) (Nat.zero_le _) rfl rfl).h
  · refine (Repeat_one a c x n w hx hhi (by omega) (by omega)).mono ?_
    rintro v w' ⟨rfl, hB, hE⟩
    refine ⟨_, _, by rw [List.length_replicate], ?_, hE⟩
    rw [List.length_replicate]
    exact (Own.of_blk (rest := []) (by rw [List.append_nil]; exact hB) (Nat.le_refl _) (Nat.le_refl _) (by unfold maxLen; omega) (by simp) (by simp)).h

end Go.Proofs.YtdpdjbfjjlpfgaaGreatDoor
