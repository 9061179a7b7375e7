/- Contract of slices.Repeat at pairs. -/
import Derived.Test.YtnngpblegbjfdaaOdd
import Derived.Test.YtnngpblegbjfdaaCopyN
namespace Go.Proofs.Ytnngpblegbjfdaa
open Go Go.RowKit

theorem rp2 {n : Nat} {x : Int} : (List.replicate n [VI x, VI x]).flatten = (List.replicate (2 * n) x).map VI := by
  induction n with
  | zero => rfl
  | succ n ih => rw [List.replicate_succ, List.flatten_cons, ih, show 2 * (n + 1) = 2 * n + 1 + 1 by omega, List.replicate_succ, List.replicate_succ]; rfl

set_option maxRecDepth 100000 in
theorem Repeat_two {lo hi : Nat} (a : Option Addr) (c : Nat) (x : Int) (n : Nat) (w : World) (hx : SAt lo hi w a ((List.replicate 2 x).map VI)) (hhi : hi ≤ w.heap.size) (hn : n ≤ 500000) (hn0 : 0 < n) :
    Fn Try.prog 48 #[.slice a 1 c, VI (n : Int)] w (fun v w' => v = .slice (some ⟨w.heap.size, 0, none⟩) n n ∧ Blk w' w.heap.size 52 ((List.replicate (2 * n) x).map VI) ∧ Ext w w') := by
  have hE := Ext.refl w
  refine Fn_of Try.func48 rfl rfl (by kernel_rfl) rfl ?_
  refine W_seq ?_
  refine W_region ?_
  refine WL_q rfl (ev_assign rfl) ?_
  refine WL_nil ?_
  refine thenE_n ?_
  refine W_seq ?_
  refine W_seq ?_
  refine W_region ?_
  refine WL_q rfl (ev_move rfl) ?_
  refine WL_q rfl (ev_lss rfl rfl) ?_
  refine WL_nil ?_
  refine thenE_n ?_
  refine W_cond rfl (fun hg10 => ?_) (fun hg10 => ?_)
  · have hp10 := of_decide_eq_true hg10
    omega
  · have hp10 := of_decide_eq_false hg10
    refine W_skip ?_
    refine thenE_n ?_
    refine W_seq ?_
    refine W_region ?_
    refine WL_q rfl (ev_move rfl) ?_
    refine WL_q rfl (ev_len Try.underlying53 rfl) ?_
    refine WL_q rfl (ev_conv (by kernel_rfl) Try.underlying85 (by kernel_rfl) rfl (wrap_u0 1 (by omega))) ?_
    refine WL_q rfl (ev_move rfl) ?_
    refine WL_q rfl (ev_conv (by kernel_rfl) Try.underlying85 (by kernel_rfl) rfl (wrap_u0 _ (by omega))) ?_
    refine WL_m rfl (ev_call rfl (Mul_one n _ (by omega))) ?_
    rintro _ _ ⟨rfl, rfl⟩
    refine WL_q rfl (ev_move rfl) ?_
    refine WL_q rfl (ev_extract rfl rfl) ?_
    refine WL_q rfl (ev_extract rfl rfl) ?_
    refine WL_q rfl (ev_assign rfl) ?_
    refine WL_q rfl (ev_assign rfl) ?_
    refine WL_nil ?_
    refine thenE_n ?_
    refine W_seq ?_
    refine W_seq ?_
    refine W_region ?_
    refine WL_q rfl (ev_move rfl) ?_
    refine WL_q rfl (ev_gtr_u rfl rfl) ?_
    refine WL_q rfl (ev_move rfl) ?_
    refine WL_splitv (t := 23) rfl (fun hg22 => ?_) (fun hg22 => ?_)
    · have hp22 := of_decide_eq_true hg22
      omega
    · have hp22 := of_decide_eq_false hg22
      refine WL_qg rfl rfl hg22 rfl (ev_move rfl) ?_
      refine WL_qg rfl rfl hg22 rfl (ev_gtr_u rfl rfl) ?_
      refine WL_q rfl (ev_pick_f rfl hg22 rfl) ?_
      refine WL_nil ?_
      refine thenE_n ?_
      refine W_cond rfl (fun hg25 => ?_) (fun hg25 => ?_)
      · have hp25 := of_decide_eq_true hg25
        omega
      · have hp25 := of_decide_eq_false hg25
        refine W_skip ?_
        refine thenE_n ?_
        refine W_seq ?_
        refine W_region ?_
        refine WL_q rfl (ev_move rfl) ?_
        refine WL_q rfl (ev_conv (by kernel_rfl) Try.underlying3 (by kernel_rfl) rfl (wrap_i0 _ (by omega))) ?_
        refine WL_m rfl (ev_make2N Try.underlying53 el52 rfl rfl (by omega) (by omega)) ?_
        rintro _ w30 ⟨rfl, hN30⟩
        have hz30 := hN30.size
        replace hE := hE.trans hN30.ext
        replace hx := hx.ext hN30.ext
        have hB30 := hN30.blk
        rw [rp2] at hB30
        replace hB30 := rep_zero (x := x) (n := 2 * n) (by simpa using hB30)
        refine WL_q rfl (ev_assign rfl) ?_
        refine WL_nil ?_
        refine thenE_n ?_
        refine W_seq ?_
        refine W_region ?_
        refine WL_q rfl (ev_move rfl) ?_
        refine WL_q rfl (ev_move rfl) ?_
        refine WL_m rfl (ev_copyN Try.underlying53 el52 rfl rfl hB30 hx (by simp; omega) (by simp [rep]; omega) (ints_one _) (by simp)) ?_
        rintro _ w33 ⟨rfl, hS33⟩
        have hz33 := hS33.size
        replace hE := hE.sto hS33 (by omega)
        replace hx := hx.sto hS33 (by omega)
        replace hB30 := hS33.blk
        replace hB30 := rep_copy (m := 2) hB30 rfl (by omega)
        refine WL_q rfl (ev_assign rfl) ?_
        refine WL_nil ?_
        refine thenE_n ?_
        refine W_seq ?_
        refine W_block ?_
        refine W_loopC (G := Nat) [(7, _)] ((Subs.c rfl Subs.n)) (fun k => [(8, VI (k : Int))]) (fun k w' => KX (w.heap.size) w33 w' ∧ 1 ≤ k ∧ k ≤ n ∧ Blk w' w.heap.size 52 ((rep x (2 * n) (2 * k)).map VI)) (fun k => n - k) 1 ((Subs.c (lkI rfl (by simp; omega)) Subs.n)) (⟨KX.refl _ _, ⟨by omega, by omega, hB30⟩⟩) ?_
        rintro k wL0 ⟨hRL0, hk1, hk2, hBk⟩
        have hzL0 := hRL0.size
        replace hx := hx.kx hRL0 (by omega)
        replace hE := hE.kx hRL0 (by omega)
        refine W_seq ?_
        refine W_seq ?_
        refine W_region ?_
        refine WL_q rfl (ev_move rfl) ?_
        refine WL_q rfl (ev_move rfl) ?_
        refine WL_q rfl (ev_len Try.underlying53 rfl) ?_
        refine WL_q rfl (ev_lss rfl rfl) ?_
        refine WL_nil ?_
        refine thenE_n ?_
        refine W_cond rfl (fun hg37 => ?_) (fun hg37 => ?_)
        · have hp37 := of_decide_eq_true hg37
          refine W_skip ?_
          refine thenE_n ?_
          refine W_block ?_
          refine W_drawK (w.heap.size) (fun w' => True) [(0, true), (1, true), (2, true), (3, true), (4, true), (5, true), (6, true), (7, false), (8, true), (9, true)] mixed (by kernel_rfl) rfl (by kernel_rfl) (fun _ _ => trivial) ?_
          intro wd9 hEd9 hzd9
          replace hE := hE.trans hEd9
          replace hRL0 := hRL0.trans hEd9
          replace hx := hx.ext hEd9
          replace hBk := hBk.ext hEd9
          have hDd9 := KX.refl (w.heap.size) wd9
          refine PW_q rfl rfl (fun wq hq => ev_move rfl) ?_
          refine PW_q rfl rfl (fun wq hq => ev_move rfl) ?_
          refine PW_q rfl rfl (fun wq hq => ev_move rfl) ?_
          refine PW_q rfl rfl (fun wq hq => ev_slice_at Try.underlying53 sz52 rfl rfl (by omega) (by omega) (by omega) (by omega)) ?_
          refine PW_q rfl rfl (fun wq hq => ev_move rfl) ?_
          refine PW_q rfl rfl (fun wq hq => ev_move rfl) ?_
          refine PW_q rfl rfl (fun wq hq => ev_slice_hi Try.underlying53 sz52 rfl rfl (by omega) (by omega)) ?_
          refine PW_m rfl rfl (ev_copyN Try.underlying53 el52 rfl rfl hBk (rep_src (m := 2 * min k (n - k)) hBk (by omega)) (by simp; omega) (by simp [rep]; omega) (ints_one _) (by simp; omega)) ?_
          rintro _ w45 ⟨rfl, hS45⟩
          have hz45 := hS45.size
          replace hE := hE.sto hS45 (by omega)
          replace hRL0 := hRL0.sto hS45 (by omega)
          replace hDd9 := hDd9.sto hS45 (by omega)
          replace hBk := hS45.blk
          replace hBk := rep_copy (m := 2 * min k (n - k)) hBk (by simp; omega) (by omega)
          refine ⟨⟨hDd9, trivial⟩, ?_⟩
          refine PW_q rfl rfl (fun wq hq => ev_add rfl rfl (by simp; omega)) ?_
          refine PW_q rfl rfl (fun wq hq => ev_assign rfl) ?_
          replace hx := hx.kx hDd9 (by omega)
          refine PW_nil ?_
          refine blockE_n ?_
          refine thenE_n ?_
          exact ⟨k + min k (n - k), (Subs.c rfl Subs.n), (Subs.c (lkI rfl (by simp)) Subs.n), ⟨hRL0, ⟨by omega, by omega, by rw [Nat.mul_add]; exact hBk⟩⟩, by first | omega | (dsimp only; omega)⟩
        · have hp37 := of_decide_eq_false hg37
          refine W_exit ?_
          refine thenE_x ?_
          refine thenE_x ?_
          refine blockE_hit ?_
          refine thenE_n ?_
          refine W_seq ?_
          refine W_region ?_
          refine WL_q rfl (ev_move rfl) ?_
          refine WL_q rfl (ev_assign rfl) ?_
          refine WL_nil ?_
          refine thenE_n ?_
          refine W_ret ?_
          refine ret1 rfl rfl ?_
          have hk9 : k = n := by omega
          rw [rep_full (by omega), hk9] at hBk; exact ⟨rfl, hBk, hE⟩

end Go.Proofs.Ytnngpblegbjfdaa
