/- Contracts of slices.Repeat at []int, of the distances from a node, and of what is made of them; the walks of FnExactIsConnected and FnExactDiameterOf. -/
import Derived.Shelf.Bits.Mul64
import Derived.Test.YtjnkkadbfigmpaaStd
import Derived.Test.YtjnkkadbfigmpaaPortMap
import Derived.Test.YtjnkkadbfigmpaaBfs
import Derived.Test.YtjnkkadbfigmpaaMore
namespace Go.Proofs.Ytjnkkadbfigmpaa
open Go Go.RowKit

open Go.Shelf in
def mulLays_ren : Go.Shelf.Ren := ⟨fun | 212 => 120 | 263 => 135 | 264 => 136 | n => n, fun | 46 => 126 | 51 => 136 | 146 => 137 | 53 => 139 | 148 => 140 | n => n, fun | n => n⟩
open Go.Shelf in
theorem mulLays : Go.Proofs.Lays.n212 Try.prog mulLays_ren := {
  mixed := by kernel_rfl
  f212 := Try.func120.trans (congrArg some (by kernel_rfl))
  f263 := Try.func135.trans (congrArg some (by kernel_rfl))
  f264 := Try.func136.trans (congrArg some (by kernel_rfl))
  t46 := Try.underlying126
  a46 := Try.isAgg126
  z46 := Try.sizeOf126
  v46 := Try.zeroValue126
  t51 := Try.underlying136
  a51 := Try.isAgg136
  z51 := Try.sizeOf136
  v51 := Try.zeroValue136
  t53 := Try.underlying139
  a53 := Try.isAgg139
  z53 := Try.sizeOf139
  v53 := Try.zeroValue139
  t146 := Try.underlying137
  a146 := Try.isAgg137
  z146 := Try.sizeOf137
  v146 := Try.zeroValue137
  t148 := Try.underlying140
  a148 := Try.isAgg140
  z148 := Try.sizeOf140
  v148 := Try.zeroValue140 }
theorem Mul_one (n : Nat) (w : World) (h : n ≤ 1048576) : Fn Try.prog 120 #[.int .u64 ((1 : Nat) : Int), .int .u64 (n : Int)] w (fun v w' => v = .tuple #[.int .u64 0, .int .u64 (n : Int)] ∧ w = w') := by
  refine ⟨by kernel_rfl, ?_⟩
  refine Calls.mono (Any.bits_Mul mulLays 1 n (by decide) (by omega) w) ?_
  rintro e w' ⟨rfl, rfl⟩
  refine ⟨_, rfl, ?_, rfl⟩
  rw [show 1 * n / 18446744073709551616 = 0 by omega, show 1 * n % 18446744073709551616 = n by omega]
  rfl
theorem NOk.endsOk {n : Net} (h : NOk n) : EndsOk n.ends := by
  intro r hr e he
  obtain ⟨v, hv, rfl⟩ := List.mem_iff_getElem.1 hr
  obtain ⟨i, hi, rfl⟩ := List.mem_iff_getElem.1 he
  have := h.endOk hv hi
  exact ⟨this.1, this.2.1⟩
theorem EndsOk.at {ends : Ends} (h : EndsOk ends) {v i : Nat} (hv : v < ends.length) (hi : i < ends[v].length) : 0 ≤ ends[v][i].1 ∧ ends[v][i].1.toNat < ends.length := h _ (List.getElem_mem hv) _ (List.getElem_mem hi)
theorem near_len {ends : Ends} {x : Int} (h : x.toNat < ends.length) : (near ends x).length = ends[x.toNat].length := by rw [near_get h]; simp
theorem near_at {ends : Ends} {x : Int} (h : x.toNat < ends.length) {k : Nat} (hk : k < ends[x.toNat].length) (h2 : k < (near ends x).length) : (near ends x)[k] = ends[x.toNat][k].1 := by simp [near_get h]

set_option maxRecDepth 100000 in
theorem Repeat_one {lo hi : Nat} (a : Option Addr) (c : Nat) (x : Int) (n : Nat) (w : World) (hx : Ints lo hi w a c [x]) (hhi : hi ≤ w.heap.size) (hn : n ≤ 1048576) (hn0 : 0 < n) :
    Fn Try.prog 97 #[.slice a 1 c, VI (n : Int)] w (fun v w' => v = .slice (some ⟨w.heap.size, 0, none⟩) n n ∧ Blk w' w.heap.size 3 ((List.replicate n x).map VI) ∧ Ext w w') := by
  have hE := Ext.refl w
  refine Fn_of Try.func97 rfl rfl (by kernel_rfl) rfl ?_
  refine W_seq ?_
  refine W_region ?_
  refine WL_q rfl (ev_assign rfl) ?_
  refine WL_nil ?_
  refine thenE_n ?_
  refine W_seq ?_
  refine W_seq ?_
  refine W_region ?_
  refine WL_q rfl (ev_move rfl) ?_
  refine WL_q rfl (ev_lss rfl rfl) ?_
  refine WL_nil ?_
  refine thenE_n ?_
  refine W_cond rfl (fun hg10 => ?_) (fun hg10 => ?_)
  · have hp10 := of_decide_eq_true hg10
    omega
  · have hp10 := of_decide_eq_false hg10
    refine W_skip ?_
    refine thenE_n ?_
    refine W_seq ?_
    refine W_region ?_
    refine WL_q rfl (ev_move rfl) ?_
    refine WL_q rfl (ev_len Try.underlying23 rfl) ?_
    refine WL_q rfl (ev_conv (by kernel_rfl) Try.underlying126 (by kernel_rfl) rfl (wrap_u0 1 (by omega))) ?_
    refine WL_q rfl (ev_move rfl) ?_
    refine WL_q rfl (ev_conv (by kernel_rfl) Try.underlying126 (by kernel_rfl) rfl (wrap_u0 _ (by omega))) ?_
    refine WL_m rfl (ev_call rfl (Mul_one n _ hn)) ?_
    rintro _ _ ⟨rfl, rfl⟩
    refine WL_q rfl (ev_move rfl) ?_
    refine WL_q rfl (ev_extract rfl rfl) ?_
    refine WL_q rfl (ev_extract rfl rfl) ?_
    refine WL_q rfl (ev_assign rfl) ?_
    refine WL_q rfl (ev_assign rfl) ?_
    refine WL_nil ?_
    refine thenE_n ?_
    refine W_seq ?_
    refine W_seq ?_
    refine W_region ?_
    refine WL_q rfl (ev_move rfl) ?_
    refine WL_q rfl (ev_gtr_u rfl rfl) ?_
    refine WL_q rfl (ev_move rfl) ?_
    refine WL_splitv (t := 23) rfl (fun hg22 => ?_) (fun hg22 => ?_)
    · have hp22 := of_decide_eq_true hg22
      omega
    · have hp22 := of_decide_eq_false hg22
      refine WL_qg rfl rfl hg22 rfl (ev_move rfl) ?_
      refine WL_qg rfl rfl hg22 rfl (ev_gtr_u rfl rfl) ?_
      refine WL_q rfl (ev_pick_f rfl hg22 rfl) ?_
      refine WL_nil ?_
      refine thenE_n ?_
      refine W_cond rfl (fun hg25 => ?_) (fun hg25 => ?_)
      · have hp25 := of_decide_eq_true hg25
        omega
      · have hp25 := of_decide_eq_false hg25
        refine W_skip ?_
        refine thenE_n ?_
        refine W_seq ?_
        refine W_region ?_
        refine WL_q rfl (ev_move rfl) ?_
        refine WL_q rfl (ev_conv (by kernel_rfl) Try.underlying3 (by kernel_rfl) rfl (wrap_i0 _ (by omega))) ?_
        refine WL_m rfl (ev_makeN Try.underlying23 el3 rfl rfl rfl (by omega) (by omega)) ?_
        rintro _ w30 ⟨rfl, hN30⟩
        have hz30 := hN30.size
        replace hE := hE.trans hN30.ext
        replace hx := hx.ext hN30.ext
        have hB30 := hN30.blk
        replace hB30 := rep_zero (x := x) hB30
        refine WL_q rfl (ev_assign rfl) ?_
        refine WL_nil ?_
        refine thenE_n ?_
        refine W_seq ?_
        refine W_region ?_
        refine WL_q rfl (ev_move rfl) ?_
        refine WL_q rfl (ev_move rfl) ?_
        refine WL_m rfl (ev_copy Try.underlying23 el3 rfl rfl hB30 (hx.sat : SAt _ _ _ _ ((List.replicate 1 x).map VI)) (by simp; omega) (by simp [rep]; omega) (ints_one _) (by simp)) ?_
        rintro _ w33 ⟨rfl, hS33⟩
        have hz33 := hS33.size
        replace hE := hE.sto hS33 (by omega)
        replace hx := hx.sto hS33 (by omega)
        replace hB30 := hS33.blk
        replace hB30 := rep_copy (m := 1) hB30 rfl (by omega)
        refine WL_q rfl (ev_assign rfl) ?_
        refine WL_nil ?_
        refine thenE_n ?_
        refine W_seq ?_
        refine W_block ?_
        refine W_loopC (G := Nat) [(7, _)] ((Subs.c rfl Subs.n)) (fun k => [(8, VI (k : Int))]) (fun k w' => KX (w.heap.size) w33 w' ∧ 1 ≤ k ∧ k ≤ n ∧ Blk w' w.heap.size 3 ((rep x n k).map VI)) (fun k => n - k) 1 ((Subs.c (lkI rfl (by simp)) Subs.n)) (⟨KX.refl _ _, ⟨by omega, by omega, hB30⟩⟩) ?_
        rintro k wL0 ⟨hRL0, hk1, hk2, hBk⟩
        have hzL0 := hRL0.size
        replace hx := hx.kx hRL0 (by omega)
        replace hE := hE.kx hRL0 (by omega)
        refine W_seq ?_
        refine W_seq ?_
        refine W_region ?_
        refine WL_q rfl (ev_move rfl) ?_
        refine WL_q rfl (ev_move rfl) ?_
        refine WL_q rfl (ev_len Try.underlying23 rfl) ?_
        refine WL_q rfl (ev_lss rfl rfl) ?_
        refine WL_nil ?_
        refine thenE_n ?_
        refine W_cond rfl (fun hg37 => ?_) (fun hg37 => ?_)
        · have hp37 := of_decide_eq_true hg37
          refine W_skip ?_
          refine thenE_n ?_
          refine W_block ?_
          refine W_drawK (w.heap.size) (fun w' => True) [(0, true), (1, true), (2, true), (3, true), (4, true), (5, true), (6, true), (7, false), (8, true), (9, true)] mixed (by kernel_rfl) rfl (by kernel_rfl) (fun _ _ => trivial) ?_
          intro wd9 hEd9 hzd9
          replace hE := hE.trans hEd9
          replace hRL0 := hRL0.trans hEd9
          replace hx := hx.ext hEd9
          replace hBk := hBk.ext hEd9
          have hDd9 := KX.refl (w.heap.size) wd9
          refine PW_q rfl rfl (fun wq hq => ev_move rfl) ?_
          refine PW_q rfl rfl (fun wq hq => ev_move rfl) ?_
          refine PW_q rfl rfl (fun wq hq => ev_move rfl) ?_
          refine PW_q rfl rfl (fun wq hq => ev_slice_at Try.underlying23 sz3 rfl rfl (by omega) (by omega) (by omega) (by omega)) ?_
          refine PW_q rfl rfl (fun wq hq => ev_move rfl) ?_
          refine PW_q rfl rfl (fun wq hq => ev_move rfl) ?_
          refine PW_q rfl rfl (fun wq hq => ev_slice_hi Try.underlying23 sz3 rfl rfl (by omega) (by omega)) ?_
          refine PW_m rfl rfl (ev_copy Try.underlying23 el3 rfl rfl hBk (rep_src (m := min k (n - k)) hBk (by omega)) (by simp) (by simp [rep]; omega) (ints_one _) (by simp; omega)) ?_
          rintro _ w45 ⟨rfl, hS45⟩
          have hz45 := hS45.size
          replace hE := hE.sto hS45 (by omega)
          replace hRL0 := hRL0.sto hS45 (by omega)
          replace hDd9 := hDd9.sto hS45 (by omega)
          replace hBk := hS45.blk
          replace hBk := rep_copy (m := min k (n - k)) hBk (by omega) (by omega)
          refine ⟨⟨hDd9, trivial⟩, ?_⟩
          refine PW_q rfl rfl (fun wq hq => ev_add rfl rfl (by simp; omega)) ?_
          refine PW_q rfl rfl (fun wq hq => ev_assign rfl) ?_
          replace hx := hx.kx hDd9 (by omega)
          refine PW_nil ?_
          refine blockE_n ?_
          refine thenE_n ?_
          exact ⟨k + min k (n - k), (Subs.c rfl Subs.n), (Subs.c (lkI rfl (by simp)) Subs.n), ⟨hRL0, ⟨by omega, by omega, hBk⟩⟩, by first | omega | (dsimp only; omega)⟩
        · have hp37 := of_decide_eq_false hg37
          refine W_exit ?_
          refine thenE_x ?_
          refine thenE_x ?_
          refine blockE_hit ?_
          refine thenE_n ?_
          refine W_seq ?_
          refine W_region ?_
          refine WL_q rfl (ev_move rfl) ?_
          refine WL_q rfl (ev_assign rfl) ?_
          refine WL_nil ?_
          refine thenE_n ?_
          refine W_ret ?_
          refine ret1 rfl rfl ?_
          have hk9 : k = n := by omega
          rw [rep_full (by omega), hk9] at hBk; exact ⟨rfl, hBk, hE⟩

theorem drop_zero_of {α : Type} {l : List α} {i : Nat} (h : ¬ ((l.drop i).length : Int) > 0) : l.length ≤ i := by simp at h; omega
theorem drop_at {l : List Int} {i : Nat} (h : 0 < (l.drop i).length) (h2 : i < l.length) : (l.drop i)[0] = l[i] := by simp
theorem ownq_to {lo hi : Nat} {w : World} {E : TypeId} {a : Option Addr} {n n' c : Nat} {xs ys : List Int} (h : OwnQ lo hi w E 1 a n c (xs.map VI)) (e : xs = ys) (hn : n = n') : OwnQ lo hi w E 1 a n' c (ys.map VI) := by subst e hn; exact h
theorem own_to {lo : Nat} {w : World} {E : TypeId} {a : Option Addr} {n n' c : Nat} {xs ys : List Int} (h : Own lo w E 1 a n c (xs.map VI)) (e : xs = ys) (hn : n = n') : Own lo w E 1 a n' c (ys.map VI) := by subst e hn; exact h
theorem blk_to {w : World} {b : Nat} {T : TypeId} {xs ys : List Int} (h : Blk w b T (xs.map VI)) (e : xs = ys) : Blk w b T (ys.map VI) := e ▸ h
theorem bfsN0 {ends : Ends} {v : Int} : (List.replicate ends.length (-1)).set v.toNat 0 = (bfsN ends v 0).1 := rfl
theorem cell_set_ne {w : World} {g i j m : Nat} {T : TypeId} {xs : List Int} {y : Int} (h : Blk w g T ((xs.set m y).map VI)) (hi : i < xs.length) (hj : j = i) (hne : m ≠ i) : w.cell? ⟨g, j, none⟩ = some (VI xs[i]) := by
  have := icell (i := i) (j := j) h (by simpa using hi) hj
  rwa [List.getElem_set_ne hne] at this
theorem drop_snoc {l : List Int} {i : Nat} {y : Int} (h : i ≤ l.length) : l.drop i ++ [y] = (l ++ [y]).drop i := (List.drop_append_of_le_length h).symm

set_option maxHeartbeats 2000000 in
set_option maxRecDepth 100000 in
theorem dist_spec {lo hi : Nat} (h : NA) (A : Net) (v : Int) (w : World) (hA : IsNet lo hi w h A) (hhi : hi ≤ w.heap.size) (hn : totN A ≤ 1048576) (hk : EndsOk A.ends) (hv : 0 ≤ v ∧ v.toNat < A.ends.length) :
    Fn Try.prog 96 #[netV h A, VI v] w (fun r w' => ∃ a' c', r = .slice a' A.ends.length c' ∧ Own w.heap.size w' 3 1 a' A.ends.length c' ((bfs A.ends v).map VI) ∧ Ext w w') := by
  have hn0 := hn
  unfold totN at hn
  have hq1 := totL_len A.ends
  have hv1 := hv.1
  have hv2 := hv.2
  have hE := Ext.refl w
  refine Fn_of Try.func96 rfl rfl (by kernel_rfl) rfl ?_
  refine W_seq ?_
  refine W_region ?_
  refine WL_m rfl (ev_box rfl) ?_
  rintro _ w2 ⟨rfl, hN2⟩
  have hz2 := hN2.size
  replace hE := hE.trans hN2.ext
  replace hA := hA.ext hN2.ext
  have hB2 : Blk w2 _ _ [_, _, _] := hN2.blk
  refine WL_q rfl (ev_assign rfl) ?_
  refine WL_nil ?_
  refine thenE_n ?_
  refine W_seq ?_
  refine W_region ?_
  refine WL_m rfl (ev_lit1 Try.underlying23 el3 (by decide) (by decide) rfl rfl) ?_
  rintro _ w10 ⟨rfl, hN10⟩
  have hz10 := hN10.size
  replace hE := hE.trans hN10.ext
  replace hA := hA.ext hN10.ext
  replace hB2 := hB2.ext hN10.ext
  have hB10 := hN10.blk
  refine WL_q rfl (ev_fieldAddr fo31_0 rfl) ?_
  refine WL_q rfl (ev_load one29 rfl (hB2.cell rfl)) ?_
  refine WL_q rfl (ev_len Try.underlying29 rfl) ?_
  refine WL_m rfl (ev_call rfl (Repeat_one _ _ (-1) A.ends.length _ (Blk.ints (ys := [-1]) hB10 (by simp)) (by omega) (by omega) (by omega))) ?_
  rintro _ w14 ⟨rfl, hR14, hE14⟩
  have hz14 := hE14.size
  replace hE := hE.trans hE14
  replace hA := hA.ext hE14
  replace hB2 := hB2.ext hE14
  replace hB10 := hB10.ext hE14
  have hb14 := hR14.lt
  refine WL_q rfl (ev_assign rfl) ?_
  refine WL_nil ?_
  refine thenE_n ?_
  refine W_seq ?_
  refine W_region ?_
  refine WL_q rfl (ev_move rfl) ?_
  refine WL_q rfl (ev_move rfl) ?_
  refine WL_q rfl (ev_indexAddr Try.underlying23 sz3 rfl rfl rfl (by omega) (by omega)) ?_
  refine WL_s (ev_store sz3 rfl rfl rfl hR14 (by simp; omega)) ?_
  rintro _ w2_3 hS2_3
  have hz2_3 := hS2_3.size
  replace hE := hE.sto hS2_3 (by omega)
  replace hA := hA.sto hS2_3 (by omega)
  replace hB2 := hB2.sto hS2_3 (by omega)
  replace hB10 := hB10.sto hS2_3 (by omega)
  replace hR14 := hS2_3.blk
  replace hR14 := iset (i := v.toNat) (by omega) hR14
  replace hR14 := blk_to hR14 (bfsN0 (ends := A.ends) (v := v))
  refine WL_nil ?_
  refine thenE_n ?_
  refine W_seq ?_
  refine W_region ?_
  refine WL_q rfl (ev_move rfl) ?_
  refine WL_m rfl (ev_lit1 Try.underlying23 el3 (by decide) (by decide) rfl rfl) ?_
  rintro _ w19 ⟨rfl, hN19⟩
  have hz19 := hN19.size
  replace hE := hE.trans hN19.ext
  replace hA := hA.ext hN19.ext
  replace hB2 := hB2.ext hN19.ext
  replace hB10 := hB10.ext hN19.ext
  replace hR14 := hR14.ext hN19.ext
  have hB19 := hN19.blk
  have hOq := Own.q (Own.of_new (n := 1) (sz := 1) hN19 rfl (by decide))
  refine WL_q rfl (ev_assign rfl) ?_
  refine WL_nil ?_
  refine thenE_n ?_
  refine W_seq ?_
  refine W_block ?_
  refine W_loopC (G := Nat × Option Addr × Nat) [(2, _), (5, _)] ((Subs.c rfl (Subs.c rfl Subs.n))) (fun ⟨i, a, c⟩ => [(6, .slice a ((bfsN A.ends v i).2.drop i).length c)]) (fun ⟨i, a, c⟩ w' => Lo (w10.heap.size) w19 w' ∧ i ≤ (bfsN A.ends v i).2.length ∧ Blk w' w10.heap.size 3 ((bfsN A.ends v i).1.map VI) ∧ OwnQ w14.heap.size w'.heap.size w' 3 1 a ((bfsN A.ends v i).2.drop i).length c (((bfsN A.ends v i).2.drop i).map VI)) (fun g => A.ends.length - g.1) (0, _, _) ((Subs.c rfl Subs.n)) (⟨Lo.refl (by omega), ⟨by simp, hR14, hOq.up (by omega) (by omega)⟩⟩) ?_
  rintro ⟨i, a, c⟩ wL0 ⟨hRL0, hi', hBo, hOq⟩
  have hzL0 := hRL0.size
  replace hA := hA.lo hRL0 (by omega)
  replace hB2 := hB2.lo hRL0 (by omega)
  replace hB10 := hB10.lo hRL0 (by omega)
  replace hE := hE.lo hRL0 (by omega)
  have hI := bfsN_inv hk hv1 hv2 i
  have hwl := hI.walk
  have hbl := hI.len
  refine W_seq ?_
  refine W_seq ?_
  refine W_region ?_
  refine WL_q rfl (ev_move rfl) ?_
  refine WL_q rfl (ev_len Try.underlying23 rfl) ?_
  refine WL_q rfl (ev_gtr rfl rfl) ?_
  refine WL_nil ?_
  refine thenE_n ?_
  refine W_cond rfl (fun hg22 => ?_) (fun hg22 => ?_)
  · have hp22 := of_decide_eq_true hg22
    refine W_skip ?_
    refine thenE_n ?_
    refine W_block ?_
    refine W_seq ?_
    refine W_region ?_
    refine WL_q rfl (ev_move rfl) ?_
    have hil : i < (bfsN A.ends v i).2.length := by simp at hp22; omega
    refine WL_q rfl (ev_indexAddr Try.underlying23 sz3 rfl rfl ((ownq_i hOq).isSome (by omega)) (by omega) (by omega)) ?_
    refine WL_q rfl (ev_load one3 rfl ((ownq_i hOq).cell (i := 0) (by omega))) ?_
    generalize hgx : (((bfsN A.ends v i).2.drop i)[0]'(by simp; omega)) = x
    have hxe : (bfsN A.ends v i).2[i] = x := by rw [← hgx, drop_at (by simp; omega) hil]
    have hxm := hI.mem _ (List.getElem_mem hil)
    rw [hxe] at hxm
    have hx1 := hxm.1
    have hx2 := hxm.2.1
    have htx := totL_le hx2
    refine WL_q rfl (ev_assign rfl) ?_
    refine WL_nil ?_
    refine thenE_n ?_
    refine W_seq ?_
    refine W_region ?_
    refine WL_q rfl (ev_move rfl) ?_
    refine WL_q rfl (ev_slice_lo Try.underlying23 sz3 rfl rfl (by omega) (by simp; omega) (hOq.cap.1)) ?_
    replace hOq := ownq_to (ownq_drop1 hOq rfl (by simp; omega)) (List.tail_drop (l := (bfsN A.ends v i).2) (i := i)) rfl
    refine WL_q rfl (ev_assign rfl) ?_
    refine WL_nil ?_
    refine thenE_n ?_
    refine W_seq ?_
    refine W_region ?_
    refine WL_q rfl (ev_fieldAddr fo31_0 rfl) ?_
    refine WL_q rfl (ev_load one29 rfl (hB2.cell rfl)) ?_
    refine WL_q rfl (ev_move rfl) ?_
    have hl31 : x.toNat < A.ends.length := hx2
    have ht31 := totL_le hl31
    obtain ⟨a31, c31, hc31, hr31⟩ := hA.ends.row hl31
    refine WL_q rfl (ev_indexAddr Try.underlying29 sz76 rfl rfl (hA.ends.isSome (by omega)) (by omega) (by omega)) ?_
    refine WL_q rfl (ev_load one76 rfl (hc31)) ?_
    refine WL_q rfl (ev_len Try.underlying76 rfl) ?_
    refine WL_q rfl (ev_move rfl) ?_
    refine WL_nil ?_
    refine thenE_n ?_
    refine W_block ?_
    refine W_loopC (G := Nat × Option Addr × Nat) [(2, _), (5, _), (7, _), (32, _), (33, _)] ((Subs.c rfl (Subs.c rfl (Subs.c rfl (Subs.c rfl (Subs.c rfl Subs.n)))))) (fun ⟨k, a2, c2⟩ => [(6, .slice a2 ((bfsK A.ends v i x k).2.drop (i + 1)).length c2), (34, VI (k : Int))]) (fun ⟨k, a2, c2⟩ w' => Lo (w10.heap.size) wL0 w' ∧ k ≤ A.ends[x.toNat].length ∧ Blk w' w10.heap.size 3 ((bfsK A.ends v i x k).1.map VI) ∧ OwnQ w14.heap.size w'.heap.size w' 3 1 a2 ((bfsK A.ends v i x k).2.drop (i + 1)).length c2 (((bfsK A.ends v i x k).2.drop (i + 1)).map VI)) (fun g => A.ends[x.toNat].length - g.1) (0, _, _) ((Subs.c (lkS rfl (by simp [bfsK_zero]; omega)) (Subs.c (lkI rfl (by omega)) Subs.n))) (⟨Lo.refl (by omega), ⟨by omega, by rw [bfsK_zero]; exact hBo, (ownq_to hOq (by rw [bfsK_zero]) (by simp [bfsK_zero]; omega)).up (Nat.le_refl _) (by omega)⟩⟩) ?_
    rintro ⟨k, a2, c2⟩ wL2 ⟨hRL2, hk', hBo, hOq⟩
    have hzL2 := hRL2.size
    replace hA := hA.lo hRL2 (by omega)
    replace hB2 := hB2.lo hRL2 (by omega)
    replace hB10 := hB10.lo hRL2 (by omega)
    replace hr31 := hr31.lo hRL2 (by omega)
    replace hE := hE.lo hRL2 (by omega)
    replace hRL0 := hRL0.lo hRL2 (by omega)
    have hJ := bfsK_inv (k := k) hk hv1 hv2 hil hxe
    have hJl := hJ.len
    have hJw := hJ.walk
    have hpl : i + 1 ≤ (bfsK A.ends v i x k).2.length := by obtain ⟨r, hr⟩ := bfsK_pre (ends := A.ends) (v := v) (x := x) (i := i) (k := k); rw [hr]; simp; omega
    have hdl : ((bfsK A.ends v i x k).2.drop (i + 1)).length = (bfsK A.ends v i x k).2.length - (i + 1) := List.length_drop ..
    refine W_seq ?_
    refine W_region ?_
    refine WL_q rfl (ev_lss rfl rfl) ?_
    refine WL_nil ?_
    refine thenE_n ?_
    refine W_seq ?_
    refine W_cond rfl (fun hg35 => ?_) (fun hg35 => ?_)
    · have hp35 := of_decide_eq_true hg35
      refine W_skip ?_
      refine thenE_n ?_
      refine W_seq ?_
      refine W_block ?_
      refine W_seq ?_
      refine W_region ?_
      have hlt2 : k < A.ends[x.toNat].length := by omega
      have hkl : k < (near A.ends x).length := by rw [near_len hx2]; exact hlt2
      obtain ⟨he1, he2⟩ := hk.at hx2 hlt2
      refine WL_q rfl (ev_indexAddr Try.underlying76 sz104 rfl rfl (hr31.isSome (by omega)) (by omega) (by omega)) ?_
      refine WL_q rfl (ev_loads st104 sz104 rfl (hr31.cells (i := k) (by omega)) rfl) ?_
      refine WL_m rfl (ev_alloc zr104) ?_
      rintro _ w9 ⟨rfl, hN9⟩
      have hz9 := hN9.size
      replace hE := hE.trans hN9.ext
      replace hRL0 := hRL0.trans hN9.ext
      replace hRL2 := hRL2.trans hN9.ext
      replace hA := hA.ext hN9.ext
      replace hB2 := hB2.ext hN9.ext
      replace hB10 := hB10.ext hN9.ext
      replace hr31 := hr31.ext hN9.ext
      replace hBo := hBo.ext hN9.ext
      replace hOq := hOq.ext hN9.ext
      have hB9 : Blk w9 _ _ [_, _] := hN9.blk
      refine WL_s (ev_stores sz104 rfl rfl rfl (by simp [Value.oneCell']) hB9 (by simp)) ?_
      rintro _ w9_3 hS9_3
      have hz9_3 := hS9_3.size
      replace hE := hE.sto hS9_3 (by omega)
      replace hRL0 := hRL0.sto hS9_3 (by omega)
      replace hRL2 := hRL2.sto hS9_3 (by omega)
      replace hA := hA.sto hS9_3 (by omega)
      replace hB2 := hB2.sto hS9_3 (by omega)
      replace hB10 := hB10.sto hS9_3 (by omega)
      replace hr31 := hr31.sto hS9_3 (by omega)
      replace hBo := hBo.sto hS9_3 (by omega)
      replace hOq := hOq.sto hS9_3 (by omega)
      replace hB9 : Blk w9_3 _ _ [_, _] := hS9_3.blk
      refine WL_nil ?_
      refine thenE_n ?_
      refine W_seq ?_
      refine W_region ?_
      refine WL_q rfl (ev_move rfl) ?_
      refine WL_q rfl (ev_fieldAddr fo104_0 rfl) ?_
      refine WL_q rfl (ev_load one3 rfl (hB9.cell rfl)) ?_
      refine WL_q rfl (ev_indexAddr Try.underlying23 sz3 rfl rfl rfl he1 (by omega)) ?_
      refine WL_q rfl (ev_load one3 rfl (icell hBo (i := A.ends[x.toNat][k].1.toNat) (by omega) (by omega))) ?_
      refine WL_q rfl (ev_lss rfl rfl) ?_
      refine WL_nil ?_
      refine thenE_n ?_
      refine W_cond rfl (fun hg43 => ?_) (fun hg43 => ?_)
      · have hp43 := of_decide_eq_true hg43
        refine W_seq ?_
        refine W_drawK (w10.heap.size) (fun w' => w'.cell? ⟨w10.heap.size, 0 + x.toNat * 1, none⟩ = some (VI ((bfsK A.ends v i x k).1[x.toNat]))) [(0, true), (1, true), (2, true), (3, true), (4, true), (5, true), (6, true), (7, true), (8, true), (9, false)] mixed (by kernel_rfl) rfl (by kernel_rfl) (fun wd hwd => hwd.cell (icell hBo (by omega) (by omega))) ?_
        intro wd11 hEd11 hzd11
        replace hE := hE.trans hEd11
        replace hRL0 := hRL0.trans hEd11
        replace hRL2 := hRL2.trans hEd11
        replace hA := hA.ext hEd11
        replace hB2 := hB2.ext hEd11
        replace hB10 := hB10.ext hEd11
        replace hr31 := hr31.ext hEd11
        replace hBo := hBo.ext hEd11
        replace hOq := hOq.ext hEd11
        replace hB9 := hB9.ext hEd11
        have hDd11 := KX.refl (w10.heap.size) wd11
        refine PW_q rfl rfl (fun wq hq => ev_move rfl) ?_
        refine PW_q rfl rfl (fun wq hq => ev_fieldAddr fo104_0 rfl) ?_
        refine PW_q rfl rfl (fun wq hq => ev_load one3 rfl (hq.1.cellB (hB9.cell rfl) (by omega))) ?_
        refine PW_q rfl rfl (fun wq hq => ev_move rfl) ?_
        refine PW_q rfl rfl (fun wq hq => ev_move rfl) ?_
        refine PW_q rfl rfl (fun wq hq => ev_indexAddr Try.underlying23 sz3 rfl rfl rfl (by omega) (by omega)) ?_
        refine PW_q rfl rfl (fun wq hq => ev_load one3 rfl hq.2) ?_
        refine PW_q rfl rfl (fun wq hq => ev_add rfl rfl (by have := hJ.rngI (i := x.toNat) (by omega); omega)) ?_
        refine PW_q rfl rfl (fun wq hq => ev_indexAddr Try.underlying23 sz3 rfl rfl rfl he1 (by omega)) ?_
        refine PW_s rfl (ev_store sz3 rfl rfl rfl hBo (by simp; omega)) ?_
        rintro _ w11_9 hS11_9
        have hz11_9 := hS11_9.size
        replace hE := hE.sto hS11_9 (by omega)
        replace hRL0 := hRL0.sto hS11_9 (by omega)
        replace hRL2 := hRL2.sto hS11_9 (by omega)
        replace hDd11 := hDd11.sto hS11_9 (by omega)
        replace hBo := hS11_9.blk
        replace hBo := iset (i := A.ends[x.toNat][k].1.toNat) (by omega) hBo
        refine ⟨⟨hDd11, (cell_set_ne hBo (by omega) (by omega) (fun e => by have h8 := bfsK_d (k := k) hk hv1 hv2 hil hxe; rw [getD_eq (by omega)] at h8; have h9 := hxm.2.2; simp only [e] at hp43; omega))⟩, ?_⟩
        replace hA := hA.kx hDd11 (by omega)
        replace hB2 := hB2.kx hDd11 (by omega)
        replace hB10 := hB10.kx hDd11 (by omega)
        replace hr31 := hr31.kx hDd11 (by omega)
        replace hOq := hOq.kx hDd11 (by omega)
        replace hB9 := hB9.kx hDd11 (by omega)
        refine PW_nil ?_
        refine thenE_n ?_
        refine W_region ?_
        refine WL_q rfl (ev_move rfl) ?_
        refine WL_q rfl (ev_fieldAddr fo104_0 rfl) ?_
        refine WL_q rfl (ev_load one3 rfl (hB9.cell rfl)) ?_
        refine WL_m rfl (ev_lit1 Try.underlying23 el3 (by decide) (by decide) rfl rfl) ?_
        rintro _ w56 ⟨rfl, hN56⟩
        have hz56 := hN56.size
        replace hE := hE.trans hN56.ext
        replace hRL0 := hRL0.trans hN56.ext
        replace hRL2 := hRL2.trans hN56.ext
        replace hA := hA.ext hN56.ext
        replace hB2 := hB2.ext hN56.ext
        replace hB10 := hB10.ext hN56.ext
        replace hr31 := hr31.ext hN56.ext
        replace hOq := hOq.ext hN56.ext
        replace hB9 := hB9.ext hN56.ext
        replace hBo := hBo.ext hN56.ext
        have hB56 := hN56.blk
        refine WL_m rfl (ev_appendQ Try.underlying23 el3 rfl (by decide) rfl rfl hOq (SAt.of_blk (cs := [_]) (ds := []) hB56) rfl (by simp [Value.oneCell']) (by decide) (by omega) (by unfold maxLen; omega) (by omega)) ?_
        rintro _ w57 ⟨a57, c57, rfl, hO57, hK57, hQ57⟩
        have hz57 := hK57.size
        replace hE := hE.rg hK57 (by omega)
        replace hRL0 := hRL0.rg hK57 (by omega)
        replace hRL2 := hRL2.rg hK57 (by omega)
        replace hA := hA.rg hK57 (by omega)
        replace hB2 := hB2.rg hK57 (by omega)
        replace hB10 := hB10.rg hK57 (by omega)
        replace hr31 := hr31.rg hK57 (by omega)
        replace hB9 := hB9.rg hK57 (by omega)
        replace hBo := hBo.rg hK57 (by omega)
        replace hB56 := hB56.rg hK57 (by omega)
        replace hOq := hO57
        replace hOq := ownq_snocI hOq
        refine WL_q rfl (ev_assign rfl) ?_
        refine WL_nil ?_
        refine blockE_n ?_
        refine thenE_n ?_
        refine W_region ?_
        refine WL_q rfl (ev_add rfl rfl (by omega)) ?_
        refine WL_q rfl (ev_move rfl) ?_
        refine WL_nil ?_
        refine thenE_n ?_
        have hsK := bfsK_new hk hv1 hv2 hil hxe hkl (near_at hx2 hlt2 hkl) (h2 := by omega) (h3 := by omega) hp43
        exact ⟨(k + 1, a57, c57), (Subs.c rfl (Subs.c rfl (Subs.c rfl (Subs.c rfl (Subs.c rfl Subs.n))))), (Subs.c (lkS rfl (by rw [hsK]; simp; omega)) (Subs.c (lkI rfl (by omega)) Subs.n)), ⟨hRL2, ⟨by omega, by rw [hsK]; exact hBo, (ownq_to hOq (by rw [hsK]; exact drop_snoc hpl) (by rw [hsK]; simp; omega)).up (Nat.le_refl _) (by omega)⟩⟩, by first | omega | (dsimp only; omega)⟩
      · have hp43 := of_decide_eq_false hg43
        refine W_skip ?_
        refine blockE_n ?_
        refine thenE_n ?_
        refine W_region ?_
        refine WL_q rfl (ev_add rfl rfl (by omega)) ?_
        refine WL_q rfl (ev_move rfl) ?_
        refine WL_nil ?_
        refine thenE_n ?_
        have hsK := bfsK_old (v := v) (i := i) hkl (near_at hx2 hlt2 hkl) (h2 := by omega) hp43
        exact ⟨(k + 1, a2, c2), (Subs.c rfl (Subs.c rfl (Subs.c rfl (Subs.c rfl (Subs.c rfl Subs.n))))), (Subs.c (lkS rfl (by rw [hsK])) (Subs.c (lkI rfl (by omega)) Subs.n)), ⟨hRL2, ⟨by omega, by rw [hsK]; exact hBo, by rw [hsK]; exact hOq.up (Nat.le_refl _) (by omega)⟩⟩, by first | omega | (dsimp only; omega)⟩
    · have hp35 := of_decide_eq_false hg35
      refine W_exit ?_
      refine thenE_x ?_
      refine thenE_x ?_
      refine blockE_hit ?_
      refine blockE_n ?_
      refine thenE_n ?_
      have hfull := bfsK_full (k := k) (by rw [near_len hx2]; omega) hil hxe
      rw [hfull] at hBo hOq
      have hI1 := bfsN_inv hk hv1 hv2 (i + 1)
      exact ⟨(i + 1, a2, c2), (Subs.c rfl (Subs.c rfl Subs.n)), (Subs.c (lkS rfl (by rw [hfull])) Subs.n), ⟨hRL0, ⟨by obtain ⟨r, hr⟩ := bfsK_pre (ends := A.ends) (v := v) (x := x) (i := i) (k := k); rw [hfull] at hr; rw [hr]; simp; omega, hBo, hOq.up (Nat.le_refl _) (by omega)⟩⟩, by first | omega | (dsimp only; omega)⟩
  · have hp22 := of_decide_eq_false hg22
    refine W_exit ?_
    refine thenE_x ?_
    refine thenE_x ?_
    refine blockE_hit ?_
    refine thenE_n ?_
    refine W_seq ?_
    refine W_region ?_
    refine WL_q rfl (ev_move rfl) ?_
    refine WL_q rfl (ev_assign rfl) ?_
    refine WL_nil ?_
    refine thenE_n ?_
    refine W_ret ?_
    refine ret1 rfl rfl ?_
    exact ⟨_, _, rfl, by rw [← bfs_done hk hv1 hv2 (drop_zero_of hp22) (by omega)]; exact own_of_blk hBo (by omega) (by simp; omega) (by omega), hE⟩

set_option maxRecDepth 100000 in
theorem neNear_spec {lo hi : Nat} (h : NA) (A : Net) (v : Int) (w : World) (hA : IsNet lo hi w h A) (hhi : hi ≤ w.heap.size) (hn : totN A ≤ 1048576) (hv : 0 ≤ v ∧ v.toNat < A.ends.length) :
    Fn Try.prog 118 #[netV h A, VI v] w (fun r w' => ∃ a' c', r = .slice a' (near A.ends v).length c' ∧ Own w.heap.size w' 3 1 a' (near A.ends v).length c' ((near A.ends v).map VI) ∧ Ext w w') := by
  have hn0 := hn
  unfold totN at hn
  have hq1 := totL_len A.ends
  have hv1 := hv.1
  have hv2 := hv.2
  have hE := Ext.refl w
  refine Fn_of Try.func118 rfl rfl (by kernel_rfl) rfl ?_
  refine W_seq ?_
  refine W_region ?_
  refine WL_m rfl (ev_box rfl) ?_
  rintro _ w2 ⟨rfl, hN2⟩
  have hz2 := hN2.size
  replace hE := hE.trans hN2.ext
  replace hA := hA.ext hN2.ext
  have hB2 : Blk w2 _ _ [_, _, _] := hN2.blk
  refine WL_q rfl (ev_assign rfl) ?_
  refine WL_nil ?_
  refine thenE_n ?_
  refine W_seq ?_
  refine W_region ?_
  refine WL_q rfl (ev_assign rfl) ?_
  refine WL_nil ?_
  refine thenE_n ?_
  refine W_seq ?_
  refine W_seq ?_
  refine W_region ?_
  refine WL_q rfl (ev_fieldAddr fo31_0 rfl) ?_
  refine WL_q rfl (ev_load one29 rfl (hB2.cell rfl)) ?_
  refine WL_q rfl (ev_move rfl) ?_
  have hl11 : v.toNat < A.ends.length := hv2
  have ht11 := totL_le hl11
  obtain ⟨a11, c11, hc11, hr11⟩ := hA.ends.row hl11
  refine WL_q rfl (ev_indexAddr Try.underlying29 sz76 rfl rfl (hA.ends.isSome (by omega)) hv1 (by omega)) ?_
  refine WL_q rfl (ev_load one76 rfl (hc11)) ?_
  refine WL_q rfl (ev_len Try.underlying76 rfl) ?_
  refine WL_q rfl (ev_move rfl) ?_
  refine WL_nil ?_
  refine thenE_n ?_
  refine W_block ?_
  refine W_loopC (G := Nat × Option Addr × Nat) [(12, _), (13, _)] ((Subs.c rfl (Subs.c rfl Subs.n))) (fun ⟨i, a, c⟩ => [(5, .slice a i c), (14, VI (i : Int))]) (fun ⟨i, a, c⟩ w' => Ext w2 w' ∧ i ≤ A.ends[v.toNat].length ∧ OwnH w2.heap.size w'.heap.size 0 0 w' 3 1 a i c (((near A.ends v).take i).map VI)) (fun g => A.ends[v.toNat].length - g.1) (0, none, 0) ((Subs.c rfl (Subs.c (lkI rfl (by omega)) Subs.n))) (⟨Ext.refl _, ⟨by omega, OwnH.nil⟩⟩) ?_
  rintro ⟨i, a, c⟩ wL0 ⟨hRL0, hi', hO⟩
  have hzL0 := hRL0.size
  replace hE := hE.trans hRL0
  replace hA := hA.ext hRL0
  replace hB2 := hB2.ext hRL0
  replace hr11 := hr11.ext hRL0
  refine W_seq ?_
  refine W_region ?_
  refine WL_q rfl (ev_lss rfl rfl) ?_
  refine WL_nil ?_
  refine thenE_n ?_
  refine W_seq ?_
  refine W_cond rfl (fun hg15 => ?_) (fun hg15 => ?_)
  · have hp15 := of_decide_eq_true hg15
    refine W_skip ?_
    refine thenE_n ?_
    refine W_seq ?_
    refine W_block ?_
    refine W_seq ?_
    refine W_region ?_
    refine WL_q rfl (ev_indexAddr Try.underlying76 sz104 rfl rfl (hr11.isSome (by omega)) (by omega) (by omega)) ?_
    refine WL_q rfl (ev_loads st104 sz104 rfl (hr11.cells (i := i) (by omega)) rfl) ?_
    refine WL_m rfl (ev_alloc zr104) ?_
    rintro _ w7 ⟨rfl, hN7⟩
    have hz7 := hN7.size
    replace hE := hE.trans hN7.ext
    replace hRL0 := hRL0.trans hN7.ext
    replace hA := hA.ext hN7.ext
    replace hB2 := hB2.ext hN7.ext
    replace hr11 := hr11.ext hN7.ext
    replace hO := hO.ext hN7.ext
    have hB7 : Blk w7 _ _ [_, _] := hN7.blk
    refine WL_s (ev_stores sz104 rfl rfl rfl (by simp [Value.oneCell']) hB7 (by simp)) ?_
    rintro _ w4_3 hS4_3
    have hz4_3 := hS4_3.size
    replace hE := hE.sto hS4_3 (by omega)
    replace hRL0 := hRL0.sto hS4_3 (by omega)
    replace hA := hA.sto hS4_3 (by omega)
    replace hB2 := hB2.sto hS4_3 (by omega)
    replace hr11 := hr11.sto hS4_3 (by omega)
    replace hO := hO.sto hS4_3 (by omega)
    replace hB7 : Blk w4_3 _ _ [_, _] := hS4_3.blk
    refine WL_nil ?_
    refine thenE_n ?_
    refine W_region ?_
    refine WL_q rfl (ev_move rfl) ?_
    refine WL_q rfl (ev_fieldAddr fo104_0 rfl) ?_
    refine WL_q rfl (ev_load one3 rfl (hB7.cell rfl)) ?_
    refine WL_m rfl (ev_lit1 Try.underlying23 el3 (by decide) (by decide) rfl rfl) ?_
    rintro _ w21 ⟨rfl, hN21⟩
    have hz21 := hN21.size
    replace hE := hE.trans hN21.ext
    replace hRL0 := hRL0.trans hN21.ext
    replace hA := hA.ext hN21.ext
    replace hB2 := hB2.ext hN21.ext
    replace hr11 := hr11.ext hN21.ext
    replace hO := hO.ext hN21.ext
    replace hB7 := hB7.ext hN21.ext
    have hB21 := hN21.blk
    refine WL_m rfl (ev_appendT Try.underlying23 el3 rfl (by decide) rfl rfl hO (SAt.of_blk (cs := [_]) (ds := []) hB21) rfl (by simp [Value.oneCell']) (by omega) (by unfold maxLen; omega) (by omega)) ?_
    rintro _ w22 ⟨a22, c22, rfl, hO22, hK22, hQ22⟩
    have hz22 := hK22.size
    replace hE := hE.rg hK22 (by omega)
    replace hRL0 := hRL0.rg hK22 (by omega)
    replace hA := hA.rg hK22 (by omega)
    replace hB2 := hB2.rg hK22 (by omega)
    replace hr11 := hr11.rg hK22 (by omega)
    replace hB7 := hB7.rg hK22 (by omega)
    replace hB21 := hB21.rg hK22 (by omega)
    replace hO := hO22
    replace hO := ownt_snocI hO
    refine WL_q rfl (ev_assign rfl) ?_
    refine WL_nil ?_
    refine blockE_n ?_
    refine thenE_n ?_
    refine W_region ?_
    refine WL_q rfl (ev_add rfl rfl (by omega)) ?_
    refine WL_q rfl (ev_move rfl) ?_
    refine WL_nil ?_
    refine thenE_n ?_
    have hnl := near_len hv2
    exact ⟨(i + 1, a22, c22), (Subs.c rfl (Subs.c rfl Subs.n)), (Subs.c rfl (Subs.c (lkI rfl (by omega)) Subs.n)), ⟨hRL0, ⟨by omega, (ownt_take hO (by omega) (near_at hv2 (by omega) (by omega))).up (Nat.le_refl _) (by omega)⟩⟩, by first | omega | (dsimp only; omega)⟩
  · have hp15 := of_decide_eq_false hg15
    refine W_exit ?_
    refine thenE_x ?_
    refine thenE_x ?_
    refine blockE_hit ?_
    refine thenE_n ?_
    refine W_seq ?_
    refine W_region ?_
    refine WL_q rfl (ev_move rfl) ?_
    refine WL_q rfl (ev_assign rfl) ?_
    refine WL_nil ?_
    refine thenE_n ?_
    refine W_ret ?_
    refine ret1 rfl rfl ?_
    have hnl := near_len hv2
    have hi9 : i = (near A.ends v).length := by omega
    subst hi9
    exact ⟨_, _, rfl, by rw [List.take_length] at hO; exact hO.1.mono (by omega), hE⟩

set_option maxRecDepth 100000 in
theorem l1Least_spec (a b : Int) (w : World) :
    Fn Try.prog 125 #[VI a, VI b] w (fun v w' => v = VI (min a b) ∧ Ext w w') := by
  have hE := Ext.refl w
  refine Fn_of Try.func125 rfl rfl (by kernel_rfl) rfl ?_
  refine W_seq ?_
  refine W_region ?_
  refine WL_q rfl (ev_assign rfl) ?_
  refine WL_nil ?_
  refine thenE_n ?_
  refine W_seq ?_
  refine W_seq ?_
  refine W_region ?_
  refine WL_q rfl (ev_move rfl) ?_
  refine WL_q rfl (ev_move rfl) ?_
  refine WL_q rfl (ev_lss rfl rfl) ?_
  refine WL_nil ?_
  refine thenE_n ?_
  refine W_cond rfl (fun hg7 => ?_) (fun hg7 => ?_)
  · have hp7 := of_decide_eq_true hg7
    refine W_seq ?_
    refine W_region ?_
    refine WL_q rfl (ev_move rfl) ?_
    refine WL_q rfl (ev_assign rfl) ?_
    refine WL_nil ?_
    refine thenE_n ?_
    refine W_ret ?_
    refine thenE_r ?_
    refine ret1 rfl rfl ?_
    exact ⟨vi (by omega), hE⟩
  · have hp7 := of_decide_eq_false hg7
    refine W_skip ?_
    refine thenE_n ?_
    refine W_seq ?_
    refine W_region ?_
    refine WL_q rfl (ev_move rfl) ?_
    refine WL_q rfl (ev_assign rfl) ?_
    refine WL_nil ?_
    refine thenE_n ?_
    refine W_ret ?_
    refine ret1 rfl rfl ?_
    exact ⟨vi (by omega), hE⟩

set_option maxRecDepth 100000 in
theorem l1Most_spec (a b : Int) (w : World) :
    Fn Try.prog 124 #[VI a, VI b] w (fun v w' => v = VI (max a b) ∧ Ext w w') := by
  have hE := Ext.refl w
  refine Fn_of Try.func124 rfl rfl (by kernel_rfl) rfl ?_
  refine W_seq ?_
  refine W_region ?_
  refine WL_q rfl (ev_assign rfl) ?_
  refine WL_nil ?_
  refine thenE_n ?_
  refine W_seq ?_
  refine W_seq ?_
  refine W_region ?_
  refine WL_q rfl (ev_move rfl) ?_
  refine WL_q rfl (ev_move rfl) ?_
  refine WL_q rfl (ev_gtr rfl rfl) ?_
  refine WL_nil ?_
  refine thenE_n ?_
  refine W_cond rfl (fun hg7 => ?_) (fun hg7 => ?_)
  · have hp7 := of_decide_eq_true hg7
    refine W_seq ?_
    refine W_region ?_
    refine WL_q rfl (ev_move rfl) ?_
    refine WL_q rfl (ev_assign rfl) ?_
    refine WL_nil ?_
    refine thenE_n ?_
    refine W_ret ?_
    refine thenE_r ?_
    refine ret1 rfl rfl ?_
    exact ⟨vi (by omega), hE⟩
  · have hp7 := of_decide_eq_false hg7
    refine W_skip ?_
    refine thenE_n ?_
    refine W_seq ?_
    refine W_region ?_
    refine WL_q rfl (ev_move rfl) ?_
    refine WL_q rfl (ev_assign rfl) ?_
    refine WL_nil ?_
    refine thenE_n ?_
    refine W_ret ?_
    refine ret1 rfl rfl ?_
    exact ⟨vi (by omega), hE⟩

def lmax (xs : List Int) : Int := match xs with | [] => 0 | x :: r => r.foldl max x
theorem lmax_take {xs : List Int} {i : Nat} (h0 : 0 < i) (hi : i < xs.length) : max (lmax (xs.take i)) xs[i] = lmax (xs.take (i + 1)) := by
  cases xs with
  | nil => simp at hi
  | cons x r =>
    obtain ⟨k, rfl⟩ : ∃ k, i = k + 1 := ⟨i - 1, by omega⟩
    simp only [List.take_succ_cons, lmax, List.getElem_cons_succ]
    rw [List.take_succ_eq_append_getElem (by simpa using hi), List.foldl_append]
    rfl
theorem lmax_one {xs : List Int} (h : 0 < xs.length) : xs[0] = lmax (xs.take 1) := by
  cases xs with
  | nil => simp at h
  | cons x r => rfl
def mmax (xs : List Int) : Int := xs.foldl max 0
theorem mmax_take {xs : List Int} {i : Nat} (hi : i < xs.length) : max (mmax (xs.take i)) xs[i] = mmax (xs.take (i + 1)) := by
  unfold mmax; rw [List.take_succ_eq_append_getElem hi, List.foldl_append]; rfl
theorem foldl_max_max (r : List Int) : ∀ a b : Int, r.foldl max (max a b) = max a (r.foldl max b) := by
  induction r with
  | nil => intro a b; rfl
  | cons x r ih => intro a b; rw [List.foldl_cons, List.foldl_cons, show max (max a b) x = max a (max b x) by omega, ih]
theorem foldl_max_ge (r : List Int) : ∀ a : Int, a ≤ r.foldl max a ∧ ∀ x ∈ r, x ≤ r.foldl max a := by
  induction r with
  | nil => intro a; exact ⟨Int.le_refl _, fun x hx => by simp at hx⟩
  | cons y r ih =>
    intro a
    obtain ⟨h1, h2⟩ := ih (max a y)
    rw [List.foldl_cons]
    refine ⟨by omega, fun x hx => ?_⟩
    rcases List.mem_cons.1 hx with rfl | hx
    · omega
    · exact h2 x hx
theorem foldl_max_le (r : List Int) : ∀ a m : Int, a ≤ m → (∀ x ∈ r, x ≤ m) → r.foldl max a ≤ m := by
  induction r with
  | nil => intro a m h _; exact h
  | cons y r ih => intro a m h hr; rw [List.foldl_cons]; exact ih _ _ (by have := hr y (List.mem_cons_self ..); omega) (fun x hx => hr x (List.mem_cons_of_mem _ hx))
theorem mmax_eq {xs : List Int} (h : ∃ x ∈ xs, 0 ≤ x) : mmax xs = lmax xs := by
  cases xs with
  | nil => obtain ⟨x, hx, _⟩ := h; simp at hx
  | cons y r =>
    show (y :: r).foldl max 0 = r.foldl max y
    rw [List.foldl_cons, foldl_max_max]
    obtain ⟨x, hx, h0⟩ := h
    have h1 := foldl_max_ge r y
    rcases List.mem_cons.1 hx with rfl | hx
    · omega
    · have := h1.2 x hx; omega
theorem mmax_rng {xs : List Int} {m : Int} (h0 : 0 ≤ m) (h : ∀ x ∈ xs, x ≤ m) : 0 ≤ mmax xs ∧ mmax xs ≤ m := ⟨(foldl_max_ge xs 0).1, foldl_max_le xs 0 m h0 h⟩
theorem lmax_le {xs : List Int} {m : Int} (h0 : 0 ≤ m) (h : ∀ x ∈ xs, x ≤ m) : lmax xs ≤ m := by
  cases xs with
  | nil => exact h0
  | cons y r => exact foldl_max_le r y m (h y (List.mem_cons_self ..)) (fun x hx => h x (List.mem_cons_of_mem _ hx))

set_option maxRecDepth 100000 in
theorem Max_spec {lo hi : Nat} (a : Option Addr) (c : Nat) (xs : List Int) (w : World) (hx : Ints lo hi w a c xs) (hm : xs.length ≤ 1048576) (h0 : 0 < xs.length) :
    Fn Try.prog 116 #[.slice a xs.length c] w (fun v w' => v = VI (lmax xs) ∧ Ext w w') := by
  have hE := Ext.refl w
  refine Fn_of Try.func116 rfl rfl (by kernel_rfl) rfl ?_
  refine W_seq ?_
  refine W_region ?_
  refine WL_q rfl (ev_assign rfl) ?_
  refine WL_nil ?_
  refine thenE_n ?_
  refine W_seq ?_
  refine W_seq ?_
  refine W_region ?_
  refine WL_q rfl (ev_move rfl) ?_
  refine WL_q rfl (ev_len Try.underlying23 rfl) ?_
  refine WL_q rfl (ev_lss rfl rfl) ?_
  refine WL_nil ?_
  refine thenE_n ?_
  refine W_cond rfl (fun hg7 => ?_) (fun hg7 => ?_)
  · have hp7 := of_decide_eq_true hg7
    omega
  · have hp7 := of_decide_eq_false hg7
    refine W_skip ?_
    refine thenE_n ?_
    refine W_seq ?_
    refine W_region ?_
    refine WL_q rfl (ev_move rfl) ?_
    refine WL_q rfl (ev_indexAddr Try.underlying23 sz3 rfl rfl (hx.isSome (by omega)) (by omega) (by omega)) ?_
    refine WL_q rfl (ev_load one3 rfl (hx.cell (i := 0) (by omega))) ?_
    refine WL_q rfl (ev_assign rfl) ?_
    refine WL_nil ?_
    refine thenE_n ?_
    refine W_seq ?_
    refine W_seq ?_
    refine W_region ?_
    refine WL_q rfl (ev_assign rfl) ?_
    refine WL_nil ?_
    refine thenE_n ?_
    refine W_block ?_
    refine W_loopC (G := Nat) [(0, _)] ((Subs.c rfl Subs.n)) (fun i => [(3, VI (lmax (xs.take i))), (4, VI (i : Int))]) (fun i w' => Ext w w' ∧ 1 ≤ i ∧ i ≤ xs.length) (fun i => xs.length - i) 1 ((Subs.c (lkI rfl (lmax_one h0)) (Subs.c rfl Subs.n))) (⟨Ext.refl _, ⟨by omega, by omega⟩⟩) ?_
    rintro i wL0 ⟨hRL0, hi1, hi2⟩
    have hzL0 := hRL0.size
    replace hE := hE.trans hRL0
    replace hx := hx.ext hRL0
    refine W_seq ?_
    refine W_seq ?_
    refine W_region ?_
    refine WL_q rfl (ev_move rfl) ?_
    refine WL_q rfl (ev_move rfl) ?_
    refine WL_q rfl (ev_len Try.underlying23 rfl) ?_
    refine WL_q rfl (ev_lss rfl rfl) ?_
    refine WL_nil ?_
    refine thenE_n ?_
    refine W_cond rfl (fun hg15 => ?_) (fun hg15 => ?_)
    · have hp15 := of_decide_eq_true hg15
      refine W_skip ?_
      refine thenE_n ?_
      refine W_seq ?_
      refine W_block ?_
      refine W_region ?_
      refine WL_q rfl (ev_move rfl) ?_
      refine WL_q rfl (ev_move rfl) ?_
      refine WL_q rfl (ev_move rfl) ?_
      refine WL_q rfl (ev_indexAddr Try.underlying23 sz3 rfl rfl (hx.isSome (by omega)) (by omega) (by omega)) ?_
      refine WL_q rfl (ev_load one3 rfl (hx.cell (i := i) (by omega))) ?_
      refine WL_q rfl (ev_max rfl rfl) ?_
      refine WL_q rfl (ev_assign rfl) ?_
      refine WL_nil ?_
      refine blockE_n ?_
      refine thenE_n ?_
      refine W_region ?_
      refine WL_q rfl (ev_move rfl) ?_
      refine WL_q rfl (ev_add rfl rfl (by omega)) ?_
      refine WL_q rfl (ev_assign rfl) ?_
      refine WL_nil ?_
      refine thenE_n ?_
      exact ⟨i + 1, (Subs.c rfl Subs.n), (Subs.c (lkI rfl (lmax_take (by omega) (by omega))) (Subs.c (lkI rfl (by omega)) Subs.n)), ⟨hRL0, ⟨by omega, by omega⟩⟩, by first | omega | (dsimp only; omega)⟩
    · have hp15 := of_decide_eq_false hg15
      refine W_exit ?_
      refine thenE_x ?_
      refine thenE_x ?_
      refine blockE_hit ?_
      refine thenE_n ?_
      refine W_seq ?_
      refine W_region ?_
      refine WL_q rfl (ev_move rfl) ?_
      refine WL_q rfl (ev_assign rfl) ?_
      refine WL_nil ?_
      refine thenE_n ?_
      refine W_ret ?_
      refine ret1 rfl rfl ?_
      have hi9 : i = xs.length := by omega
      subst hi9; exact ⟨vi (by rw [List.take_length]), hE⟩

/-- The first place of x, or -1. -/
theorem idxF_mem {xs : List Int} {x : Int} : decide (0 ≤ idxF (fun y => decide (x = y)) xs) = decide (x ∈ xs) := by
  rw [idxF_any]
  simp only [List.any_eq, decide_eq_true_eq, decide_eq_decide]
  exact ⟨fun ⟨y, hy, e⟩ => e ▸ hy, fun h => ⟨x, h, rfl⟩⟩

set_option maxRecDepth 100000 in
theorem Index_spec {lo hi : Nat} (a : Option Addr) (c : Nat) (xs : List Int) (x : Int) (w : World) (hx : Ints lo hi w a c xs) (hm : xs.length ≤ 1048576) :
    Fn Try.prog 119 #[.slice a xs.length c, VI x] w (fun v w' => v = VI (idxF (fun y => decide (x = y)) xs) ∧ Ext w w') := by
  have hE := Ext.refl w
  refine Fn_of Try.func119 rfl rfl (by kernel_rfl) rfl ?_
  refine W_seq ?_
  refine W_region ?_
  refine WL_q rfl (ev_assign rfl) ?_
  refine WL_nil ?_
  refine thenE_n ?_
  refine W_seq ?_
  refine W_seq ?_
  refine W_region ?_
  refine WL_q rfl (ev_move rfl) ?_
  refine WL_q rfl (ev_len Try.underlying23 rfl) ?_
  refine WL_q rfl (ev_move rfl) ?_
  refine WL_nil ?_
  refine thenE_n ?_
  refine W_block ?_
  refine W_loopC (G := Nat) [(0, _), (1, _), (7, _)] ((Subs.c rfl (Subs.c rfl (Subs.c rfl Subs.n)))) (fun i => [(8, VI (i : Int))]) (fun i w' => Ext w w' ∧ i ≤ xs.length ∧ ∀ j (_h : j < i) (h2 : j < xs.length), decide (x = xs[j]) = false) (fun i => xs.length - i) 0 ((Subs.c (lkI rfl (by omega)) Subs.n)) (⟨Ext.refl _, ⟨by omega, fun j h => by omega⟩⟩) ?_
  rintro i wL0 ⟨hRL0, hi', hJ⟩
  have hzL0 := hRL0.size
  replace hE := hE.trans hRL0
  replace hx := hx.ext hRL0
  refine W_seq ?_
  refine W_region ?_
  refine WL_q rfl (ev_lss rfl rfl) ?_
  refine WL_nil ?_
  refine thenE_n ?_
  refine W_seq ?_
  refine W_cond rfl (fun hg9 => ?_) (fun hg9 => ?_)
  · have hp9 := of_decide_eq_true hg9
    refine W_skip ?_
    refine thenE_n ?_
    refine W_seq ?_
    refine W_block ?_
    refine W_seq ?_
    refine W_region ?_
    refine WL_q rfl (ev_move rfl) ?_
    refine WL_q rfl (ev_assign rfl) ?_
    refine WL_nil ?_
    refine thenE_n ?_
    refine W_seq ?_
    refine W_region ?_
    refine WL_q rfl (ev_move rfl) ?_
    refine WL_q rfl (ev_move rfl) ?_
    refine WL_q rfl (ev_move rfl) ?_
    refine WL_q rfl (ev_indexAddr Try.underlying23 sz3 rfl rfl (hx.isSome (by omega)) (by omega) (by omega)) ?_
    refine WL_q rfl (ev_load one3 rfl (hx.cell (i := i) (by omega))) ?_
    refine WL_q rfl (ev_eql rfl rfl) ?_
    refine WL_nil ?_
    refine thenE_n ?_
    refine W_cond rfl (fun hg16 => ?_) (fun hg16 => ?_)
    · have hp16 := of_decide_eq_true hg16
      refine W_seq ?_
      refine W_region ?_
      refine WL_q rfl (ev_move rfl) ?_
      refine WL_q rfl (ev_assign rfl) ?_
      refine WL_nil ?_
      refine thenE_n ?_
      refine W_ret ?_
      refine blockE_r ?_
      refine thenE_r ?_
      refine thenE_r ?_
      refine blockE_r ?_
      refine thenE_r ?_
      refine ret1 rfl rfl ?_
      first | exact ⟨vi (idxF_at (p := fun y => decide (x = y)) (by omega) hg16 hJ).symm, hE⟩ | exact ⟨vi (idxF_none (p := fun y => decide (x = y)) fun j h2 => hJ j (by omega) h2).symm, hE⟩
    · have hp16 := of_decide_eq_false hg16
      refine W_skip ?_
      refine blockE_n ?_
      refine thenE_n ?_
      refine W_region ?_
      refine WL_q rfl (ev_add rfl rfl (by omega)) ?_
      refine WL_q rfl (ev_move rfl) ?_
      refine WL_nil ?_
      refine thenE_n ?_
      exact ⟨i + 1, (Subs.c rfl (Subs.c rfl (Subs.c rfl Subs.n))), (Subs.c (lkI rfl (by omega)) Subs.n), ⟨hRL0, ⟨by omega, dsucc (P := fun j h2 => decide (x = xs[j]) = false) hJ (by omega) hg16⟩⟩, by first | omega | (dsimp only; omega)⟩
  · have hp9 := of_decide_eq_false hg9
    refine W_exit ?_
    refine thenE_x ?_
    refine thenE_x ?_
    refine blockE_hit ?_
    refine thenE_n ?_
    refine W_seq ?_
    refine W_region ?_
    refine WL_q rfl (ev_assign rfl) ?_
    refine WL_nil ?_
    refine thenE_n ?_
    refine W_ret ?_
    refine ret1 rfl rfl ?_
    first | exact ⟨vi (idxF_at (p := fun y => decide (x = y)) (by omega) hg16 hJ).symm, hE⟩ | exact ⟨vi (idxF_none (p := fun y => decide (x = y)) fun j h2 => hJ j (by omega) h2).symm, hE⟩

set_option maxRecDepth 100000 in
theorem Contains_spec {lo hi : Nat} (a : Option Addr) (c : Nat) (xs : List Int) (x : Int) (w : World) (hx : Ints lo hi w a c xs) (hm : xs.length ≤ 1048576) :
    Fn Try.prog 95 #[.slice a xs.length c, VI x] w (fun v w' => v = VB (decide (x ∈ xs)) ∧ Ext w w') := by
  have hE := Ext.refl w
  refine Fn_of Try.func95 rfl rfl (by kernel_rfl) rfl ?_
  refine W_seq ?_
  refine W_region ?_
  refine WL_q rfl (ev_assign rfl) ?_
  refine WL_nil ?_
  refine thenE_n ?_
  refine W_seq ?_
  refine W_region ?_
  refine WL_q rfl (ev_move rfl) ?_
  refine WL_q rfl (ev_move rfl) ?_
  refine WL_m rfl (ev_call rfl (Index_spec _ _ xs _ _ hx (by omega))) ?_
  rintro _ w7 ⟨rfl, hE7⟩
  have hz7 := hE7.size
  replace hE := hE.trans hE7
  replace hx := hx.ext hE7
  refine WL_q rfl (ev_geq rfl rfl) ?_
  refine WL_q rfl (ev_assign rfl) ?_
  refine WL_nil ?_
  refine thenE_n ?_
  refine W_ret ?_
  refine ret1 rfl rfl ?_
  exact ⟨vb idxF_mem, hE⟩

theorem Contains_len {lo hi n : Nat} {a : Option Addr} {c : Nat} {xs : List Int} {x : Int} {w : World} (hl : xs.length = n) (hx : Ints lo hi w a c xs) (hm : xs.length ≤ 1048576) :
    Fn Try.prog 95 #[.slice a n c, VI x] w (fun v w' => v = VB (decide (x ∈ xs)) ∧ Ext w w') := by subst hl; exact Contains_spec _ _ _ _ _ hx hm

theorem Max_len {lo hi n : Nat} {a : Option Addr} {c : Nat} {xs : List Int} {w : World} (hl : xs.length = n) (hx : Ints lo hi w a c xs) (hm : xs.length ≤ 1048576) (h0 : 0 < n) :
    Fn Try.prog 116 #[.slice a n c] w (fun v w' => v = VI (lmax xs) ∧ Ext w w') := by subst hl; exact Max_spec _ _ _ _ hx hm h0

theorem l1All_len {l r n : Nat} {a : Option Addr} {c : Nat} {xs : List Int} {lo hi : Int} {w : World} (hl : xs.length = n) (hx : Ints l r w a c xs) (hm : xs.length ≤ 1048576) :
    Fn Try.prog 84 #[.slice a n c, VI lo, VI hi] w (fun v w' => v = VB (allR xs lo hi) ∧ Ext w w') := by subst hl; exact l1All_spec _ _ _ _ _ _ hx (by omega)

end Go.Proofs.Ytjnkkadbfigmpaa
