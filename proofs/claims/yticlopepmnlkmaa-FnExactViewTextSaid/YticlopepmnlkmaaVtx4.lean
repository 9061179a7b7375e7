/- Contracts of impl.ViewText and of what it calls. -/
import Derived.Test.YticlopepmnlkmaaVtx3
namespace Go.Proofs.Yticlopepmnlkmaa
open Go Go.RowKit

theorem digB_val {n : Int} (h : 0 ≤ n ∧ n < 10) : ((digB n).toNat : Int) = 48 + n := by
  unfold digB
  rw [UInt8.toNat_ofNat']
  omega
def sepB (k : Nat) : UInt8 := if k = 0 then 40 else 44
theorem sepB_succ {k : Nat} : sepB (k + 1) = 44 := rfl
theorem fillU_set {L : List Int} {i : Nat} {x : Int} (h : i < L.length) (e : x = L[i]) : (fillU L i).set i x = fillU L (i + 1) := by
  subst e
  unfold fillU
  rw [List.set_append_right _ _ (by simp; omega), show i - (L.take i).length = 0 by simp; omega, show L.length - i = (L.length - (i + 1)) + 1 by omega, List.replicate_succ, List.set_cons_zero, ← List.take_append_getElem h, List.append_assoc]
  rfl
section
variable {A : Net} {t v k u : Nat}
theorem amt0_at (h : k < (amtV A 0).length) : (3 : Int) = (amtV A 0)[k] := by simp [amtV]
theorem amt_at (hv : k < A.ends.length) (h : k < (amtV A (t + 1)).length) (hu : u = A.ends[k].length) : min (whV ((A.ends[k].length : Nat) : Int) (sumA (amtV A t) A.ends[k] u)) 4001 = (amtV A (t + 1))[k] := by
  subst hu
  have := amtV_succ (A := A) (t := t) hv
  rw [getD_eq h, rowV_at hv] at this
  exact this.symm
theorem sumA_succ {am : List Int} {es : List (Int × Int)} (hu : u < es.length) (hi : es[u].1.toNat < am.length) : sumA am es u + am[es[u].1.toNat] = sumA am es (u + 1) := by
  simp only [sumA, getD_eq hu, getD_eq hi]
theorem sum_in (hA : NOk A) (hk : k < A.ends.length) (hu : u ≤ A.ends[k].length) : 0 ≤ sumA (amtV A t) A.ends[k] u ∧ sumA (amtV A t) A.ends[k] u ≤ 4001 * u := by
  refine sumA_in fun j hj => ?_
  have hj' : j < A.ends[k].length := by omega
  rw [getD_eq hj']
  exact amtV_in hA.kids (hA.end10 hk hj').2.1
theorem amt_get (hA : NOk A) (hv : v < A.ends.length) (h : v < (amtV A t).length) : (amtV A t)[v] = min ((txtV A t v).length : Int) 4001 := by
  have := amtV_at hA.kids t v hv
  rwa [getD_eq h] at this
theorem brV_mono {f : Int → List UInt8} {es : List (Int × Int)} {i n : Nat} (h : i ≤ n) : (brV f es i).length ≤ (brV f es n).length := by
  induction n with
  | zero => rw [show i = 0 by omega]; exact Nat.le_refl _
  | succ n ih =>
    by_cases e : i = n + 1
    · subst e; exact Nat.le_refl _
    · have := ih (by omega)
      simp only [brV, List.length_append]
      omega
theorem brV_step {f : Int → List UInt8} {es : List (Int × Int)} {X : List UInt8} (hk : k < es.length) : X ++ brV f es k ++ [sepB k, digB es[k].2, 58] ++ f es[k].1 = X ++ brV f es (k + 1) := by
  simp only [brV, getD_eq hk]
  simp [sepB]
theorem brV_slen {f : Int → List UInt8} {es : List (Int × Int)} (hk : k < es.length) : (brV f es (k + 1)).length = (brV f es k).length + 3 + (f es[k].1).length := by
  simp only [brV, getD_eq hk, List.length_append, List.length_cons]; omega
end

set_option maxRecDepth 100000 in
theorem digit_spec (n : Int) (w : World) (hn : 0 ≤ n ∧ n < 10) :
    Fn Try.prog 37 #[VI n] w (fun v w' => v = .int .u8 ((digB n).toNat : Int) ∧ w = w') := by
  refine Fn_of Try.func37 rfl rfl (by kernel_rfl) rfl ?_
  refine W_seq ?_
  refine W_region ?_
  refine WL_q rfl (ev_assign rfl) ?_
  refine WL_nil ?_
  refine thenE_n ?_
  refine W_seq ?_
  refine W_region ?_
  refine WL_q rfl (ev_move rfl) ?_
  refine WL_q rfl (ev_add rfl rfl (by omega)) ?_
  refine WL_q rfl (ev_conv (by kernel_rfl) Try.underlying5 (by kernel_rfl) rfl (wrap_b (by omega))) ?_
  refine WL_q rfl (ev_assign rfl) ?_
  refine WL_nil ?_
  refine thenE_n ?_
  refine W_ret ?_
  refine ret1 rfl rfl ?_
  exact ⟨by rw [digB_val hn], rfl⟩

set_option maxRecDepth 100000 in
theorem leaf_spec (v : Int) (w : World) :
    Fn Try.prog 20 #[VI v] w (fun x w' => x = VI 3 ∧ w = w') := by
  refine Fn_of Try.func20 rfl rfl (by kernel_rfl) rfl ?_
  refine W_seq ?_
  refine W_region ?_
  refine WL_q rfl (ev_assign rfl) ?_
  refine WL_nil ?_
  refine thenE_n ?_
  refine W_seq ?_
  refine W_region ?_
  refine WL_q rfl (ev_assign rfl) ?_
  refine WL_nil ?_
  refine thenE_n ?_
  refine W_ret ?_
  refine ret1 rfl rfl ?_
  exact ⟨rfl, rfl⟩

set_option maxRecDepth 100000 in
theorem whole_spec {lo hi : Nat} (nA : NA) (A : Net) (v : Nat) (parts : Int) (b : Nat) (hv2 : v < A.ends.length) (w : World)  (hB : Blk w b 31 [.slice nA.a1 A.ends.length nA.c1, .slice nA.a2 A.ids.length nA.c2, .slice nA.a3 A.inputs.length nA.c3]) (hA : IsNet lo hi w nA A) (hkA : NOk A) (hp : 0 ≤ parts ∧ parts ≤ 100000) :
    Fn Try.prog 21 #[VI (v : Int), VI parts, ptr b 0] w (fun x w' => x = VI (whV (A.ends[v].length : Int) parts) ∧ w = w') := by
  have h6v := hkA.six _ (List.getElem_mem hv2)
  refine Fn_of Try.func21 rfl rfl (by kernel_rfl) rfl ?_
  refine W_seq ?_
  refine W_region ?_
  refine WL_q rfl (ev_assign rfl) ?_
  refine WL_nil ?_
  refine thenE_n ?_
  refine W_seq ?_
  refine W_seq ?_
  refine W_region ?_
  refine WL_q rfl (ev_fieldAddr fo31_0 rfl) ?_
  refine WL_q rfl (ev_load one29 rfl (hB.cell rfl)) ?_
  refine WL_q rfl (ev_move rfl) ?_
  have hl10 : v < A.ends.length := by omega
  have ht10 := totL_le hl10
  obtain ⟨a10, c10, hc10, hr10⟩ := hA.ends.row hl10
  refine WL_q rfl (ev_indexAddr Try.underlying29 sz46 rfl rfl (hA.ends.isSome (by omega)) (by omega) (by omega)) ?_
  refine WL_q rfl (ev_load one46 rfl (hc10)) ?_
  refine WL_q rfl (ev_len Try.underlying46 rfl) ?_
  refine WL_q rfl (ev_assign rfl) ?_
  refine WL_nil ?_
  refine thenE_n ?_
  refine W_seq ?_
  refine W_region ?_
  refine WL_q rfl (ev_move rfl) ?_
  refine WL_q rfl (ev_gtr rfl rfl) ?_
  refine WL_nil ?_
  refine thenE_n ?_
  refine W_cond rfl (fun hg14 => ?_) (fun hg14 => ?_)
  · have hp14 := of_decide_eq_true hg14
    refine W_seq ?_
    refine W_region ?_
    refine WL_q rfl (ev_move rfl) ?_
    refine WL_q rfl (ev_add rfl rfl (by omega)) ?_
    refine WL_q rfl (ev_move rfl) ?_
    refine WL_q rfl (ev_mul rfl rfl (by omega)) ?_
    refine WL_q rfl (ev_add rfl rfl (by omega)) ?_
    refine WL_q rfl (ev_move rfl) ?_
    refine WL_q rfl (ev_sub rfl rfl (by omega)) ?_
    refine WL_q rfl (ev_add rfl rfl (by omega)) ?_
    refine WL_q rfl (ev_add rfl rfl (by omega)) ?_
    refine WL_q rfl (ev_assign rfl) ?_
    refine WL_nil ?_
    refine thenE_n ?_
    refine W_ret ?_
    refine thenE_r ?_
    refine ret1 rfl rfl ?_
    first | (exact ⟨by unfold whV; rw [if_pos (by omega)], rfl⟩) | (exact ⟨by unfold whV; rw [if_neg (by omega)], rfl⟩)
  · have hp14 := of_decide_eq_false hg14
    refine W_skip ?_
    refine thenE_n ?_
    refine W_seq ?_
    refine W_region ?_
    refine WL_q rfl (ev_assign rfl) ?_
    refine WL_nil ?_
    refine thenE_n ?_
    refine W_ret ?_
    refine ret1 rfl rfl ?_
    first | (exact ⟨by unfold whV; rw [if_pos (by omega)], rfl⟩) | (exact ⟨by unfold whV; rw [if_neg (by omega)], rfl⟩)

set_option maxHeartbeats 1000000 in
set_option maxRecDepth 100000 in
theorem viewAmounts_spec {lo hi : Nat} (nA : NA) (A : Net) (d : Int) (b3 : Nat) (w : World) (hA : IsNet lo hi w nA A) (hh : hi ≤ w.heap.size) (hkA : NOk A) (hd : 0 ≤ d ∧ d ≤ 80) (hB3 : Blk w b3 31 [.slice nA.a1 A.ends.length nA.c1, .slice nA.a2 A.ids.length nA.c2, .slice nA.a3 A.inputs.length nA.c3]) :
    Fn Try.prog 19 #[netV nA A, VI d, VI 4001, .func (.func 20) #[] #[], .func (.func 21) #[] #[ptr b3 0]] w (fun x w' => ∃ a' c', x = .slice a' A.ends.length c' ∧ Ints w.heap.size w'.heap.size w' a' c' (amtV A d.toNat) ∧ Ext w w') := by
  have hndA := hkA.nodes
  have hinA := hkA.inLen
  have h6 := hkA.six
  have hd1 := hd.1
  have hb3 := hB3.lt
  have hl0 := amtV_len (A := A) (t := 0)
  have hE := Ext.refl w
  refine Fn_of Try.func19 rfl rfl (by kernel_rfl) rfl ?_
  refine W_seq ?_
  refine W_region ?_
  refine WL_m rfl (ev_box rfl) ?_
  rintro _ w5 ⟨rfl, hN5⟩
  have hz5 := hN5.size
  replace hE := hE.trans hN5.ext
  replace hA := hA.ext hN5.ext
  replace hB3 := hB3.ext hN5.ext
  have hB5 : Blk w5 _ _ [_, _, _] := hN5.blk
  refine WL_q rfl (ev_assign rfl) ?_
  refine WL_nil ?_
  refine thenE_n ?_
  refine W_seq ?_
  refine W_region ?_
  refine WL_q rfl (ev_fieldAddr fo31_0 rfl) ?_
  refine WL_q rfl (ev_load one29 rfl (hB5.cell rfl)) ?_
  refine WL_q rfl (ev_len Try.underlying29 rfl) ?_
  refine WL_m rfl (ev_makeN Try.underlying23 el3 rfl rfl rfl (by omega) (by omega)) ?_
  rintro _ w22 ⟨rfl, hN22⟩
  have hz22 := hN22.size
  replace hE := hE.trans hN22.ext
  replace hA := hA.ext hN22.ext
  replace hB3 := hB3.ext hN22.ext
  replace hB5 := hB5.ext hN22.ext
  have hB22 := hN22.blk
  have hBa0 : Blk w22 w5.heap.size 3 ((fillU (amtV A 0) 0).map VI) := by rw [fillU_zero, hl0, List.map_replicate]; exact hB22
  refine WL_q rfl (ev_assign rfl) ?_
  refine WL_nil ?_
  refine thenE_n ?_
  refine W_seq ?_
  refine W_seq ?_
  refine W_region ?_
  refine WL_q rfl (ev_move rfl) ?_
  refine WL_q rfl (ev_len Try.underlying23 rfl) ?_
  refine WL_q rfl (ev_move rfl) ?_
  refine WL_nil ?_
  refine thenE_n ?_
  refine W_block ?_
  refine W_loopC (G := Nat) [(1, _), (2, _), (3, _), (4, _), (5, _), (11, _), (24, _)] ((Subs.c rfl (Subs.c rfl (Subs.c rfl (Subs.c rfl (Subs.c rfl (Subs.c rfl (Subs.c rfl Subs.n)))))))) (fun i => [(25, VI (i : Int))]) (fun i w' => KX (w5.heap.size) w22 w' ∧ i ≤ A.ends.length ∧ Blk w' w5.heap.size 3 ((fillU (amtV A 0) i).map VI)) (fun i => A.ends.length - i) 0 ((Subs.c (lkI rfl (by omega)) Subs.n)) (⟨KX.refl _ _, ⟨Nat.zero_le _, hBa0⟩⟩) ?_
  rintro i wL0 ⟨hRL0, hi', hBa⟩
  have hzL0 := hRL0.size
  replace hA := hA.kx hRL0 (by omega)
  replace hB3 := hB3.kx hRL0 (by omega)
  replace hB5 := hB5.kx hRL0 (by omega)
  replace hE := hE.kx hRL0 (by omega)
  have hfl := fillU_len (L := amtV A 0) (i := i) (by omega)
  refine W_seq ?_
  refine W_region ?_
  refine WL_q rfl (ev_lss rfl rfl) ?_
  refine WL_nil ?_
  refine thenE_n ?_
  refine W_seq ?_
  refine W_cond rfl (fun hg26 => ?_) (fun hg26 => ?_)
  · have hp26 := of_decide_eq_true hg26
    refine W_skip ?_
    refine thenE_n ?_
    refine W_seq ?_
    refine W_block ?_
    refine W_seq ?_
    refine W_region ?_
    refine WL_q rfl (ev_move rfl) ?_
    refine WL_q rfl (ev_assign rfl) ?_
    refine WL_nil ?_
    refine thenE_n ?_
    refine W_region ?_
    refine WL_q rfl (ev_move rfl) ?_
    refine WL_q rfl (ev_move rfl) ?_
    refine WL_q rfl (ev_move rfl) ?_
    refine WL_q rfl (ev_move rfl) ?_
    refine WL_m rfl (ev_callv rfl rfl (leaf_spec _ _)) ?_
    rintro _ _ ⟨rfl, rfl⟩
    refine WL_q rfl (ev_indexAddr Try.underlying23 sz3 rfl rfl rfl (by omega) (by omega)) ?_
    refine WL_s (ev_store sz3 rfl rfl rfl hBa (by simp; omega)) ?_
    rintro _ w5_6 hS5_6
    have hz5_6 := hS5_6.size
    replace hE := hE.sto hS5_6 (by omega)
    replace hRL0 := hRL0.sto hS5_6 (by omega)
    replace hA := hA.sto hS5_6 (by omega)
    replace hB3 := hB3.sto hS5_6 (by omega)
    replace hB5 := hB5.sto hS5_6 (by omega)
    replace hBa := hS5_6.blk
    replace hBa := iset (i := i) (by omega) hBa
    refine WL_nil ?_
    refine blockE_n ?_
    refine thenE_n ?_
    refine W_region ?_
    refine WL_q rfl (ev_add rfl rfl (by omega)) ?_
    refine WL_q rfl (ev_move rfl) ?_
    refine WL_nil ?_
    refine thenE_n ?_
    rw [fillU_set (by omega) (amt0_at (by omega))] at hBa
    exact ⟨i + 1, (Subs.c rfl (Subs.c rfl (Subs.c rfl (Subs.c rfl (Subs.c rfl (Subs.c rfl (Subs.c rfl Subs.n))))))), (Subs.c (lkI rfl (by omega)) Subs.n), ⟨hRL0, ⟨by omega, hBa⟩⟩, by first | omega | (dsimp only; omega)⟩
  · have hp26 := of_decide_eq_false hg26
    refine W_exit ?_
    refine thenE_x ?_
    refine thenE_x ?_
    refine blockE_hit ?_
    refine thenE_n ?_
    refine W_seq ?_
    refine W_seq ?_
    refine W_region ?_
    refine WL_q rfl (ev_move rfl) ?_
    refine WL_q rfl (ev_move rfl) ?_
    refine WL_nil ?_
    refine thenE_n ?_
    refine W_block ?_
    rw [fillU_full (by omega)] at hBa
    refine W_loopC (G := Nat × Nat) [(2, _), (4, _), (5, _), (35, _)] ((Subs.c rfl (Subs.c rfl (Subs.c rfl (Subs.c rfl Subs.n))))) (fun ⟨j, ga⟩ => [(11, .slice (some ⟨ga, 0, none⟩) A.ends.length A.ends.length), (36, VI (j : Int))]) (fun ⟨j, ga⟩ w' => Ext wL0 w' ∧ ((j : Int) ≤ d ∧ w.heap.size ≤ ga) ∧ Blk w' ga 3 ((amtV A j).map VI)) (fun g => d.toNat - g.1) (0, w5.heap.size) ((Subs.c rfl (Subs.c (lkI rfl (by omega)) Subs.n))) (⟨Ext.refl _, ⟨⟨by omega, by omega⟩, hBa⟩⟩) ?_
    rintro ⟨j, ga⟩ wL2 ⟨hRL2, ⟨hj', hga⟩, hBb⟩
    have hzL2 := hRL2.size
    replace hE := hE.trans hRL2
    replace hA := hA.ext hRL2
    replace hB3 := hB3.ext hRL2
    replace hB5 := hB5.ext hRL2
    replace hBa := hBa.ext hRL2
    have hal := amtV_len (A := A) (t := j)
    have hal2 := amtV_len (A := A) (t := j + 1)
    have hgl := hBb.lt
    refine W_seq ?_
    refine W_region ?_
    refine WL_q rfl (ev_lss rfl rfl) ?_
    refine WL_nil ?_
    refine thenE_n ?_
    refine W_seq ?_
    refine W_cond rfl (fun hg37 => ?_) (fun hg37 => ?_)
    · have hp37 := of_decide_eq_true hg37
      refine W_skip ?_
      refine thenE_n ?_
      refine W_seq ?_
      refine W_block ?_
      refine W_seq ?_
      refine W_region ?_
      refine WL_q rfl (ev_fieldAddr fo31_0 rfl) ?_
      refine WL_q rfl (ev_load one29 rfl (hB5.cell rfl)) ?_
      refine WL_q rfl (ev_len Try.underlying29 rfl) ?_
      refine WL_m rfl (ev_makeN Try.underlying23 el3 rfl rfl rfl (by omega) (by omega)) ?_
      rintro _ w41 ⟨rfl, hN41⟩
      have hz41 := hN41.size
      replace hE := hE.trans hN41.ext
      replace hRL2 := hRL2.trans hN41.ext
      replace hA := hA.ext hN41.ext
      replace hB3 := hB3.ext hN41.ext
      replace hB5 := hB5.ext hN41.ext
      replace hBa := hBa.ext hN41.ext
      replace hBb := hBb.ext hN41.ext
      have hB41 := hN41.blk
      have hBn0 : Blk w41 wL2.heap.size 3 ((fillU (amtV A (j + 1)) 0).map VI) := by rw [fillU_zero, hal2, List.map_replicate]; exact hB41
      refine WL_q rfl (ev_assign rfl) ?_
      refine WL_nil ?_
      refine thenE_n ?_
      refine W_seq ?_
      refine W_seq ?_
      refine W_region ?_
      refine WL_q rfl (ev_fieldAddr fo31_0 rfl) ?_
      refine WL_q rfl (ev_load one29 rfl (hB5.cell rfl)) ?_
      refine WL_q rfl (ev_len Try.underlying29 rfl) ?_
      refine WL_q rfl (ev_move rfl) ?_
      refine WL_nil ?_
      refine thenE_n ?_
      refine W_block ?_
      refine W_loopC (G := Nat) [(2, _), (4, _), (5, _), (11, _), (13, _), (35, _), (36, _), (43, _), (44, _)] ((Subs.c rfl (Subs.c rfl (Subs.c rfl (Subs.c rfl (Subs.c rfl (Subs.c rfl (Subs.c rfl (Subs.c rfl (Subs.c rfl Subs.n)))))))))) (fun k => [(45, VI (k : Int))]) (fun k w' => KX (wL2.heap.size) w41 w' ∧ k ≤ A.ends.length ∧ Blk w' wL2.heap.size 3 ((fillU (amtV A (j + 1)) k).map VI)) (fun k => A.ends.length - k) 0 ((Subs.c (lkI rfl (by omega)) Subs.n)) (⟨KX.refl _ _, ⟨Nat.zero_le _, hBn0⟩⟩) ?_
      rintro k wL4 ⟨hRL4, hk', hBn⟩
      have hzL4 := hRL4.size
      replace hA := hA.kx hRL4 (by omega)
      replace hB3 := hB3.kx hRL4 (by omega)
      replace hB5 := hB5.kx hRL4 (by omega)
      replace hBa := hBa.kx hRL4 (by omega)
      replace hBb := hBb.kx hRL4 (by omega)
      replace hE := hE.kx hRL4 (by omega)
      replace hRL2 := hRL2.kx hRL4 (by omega)
      have hfl := fillU_len (L := amtV A (j + 1)) (i := k) (by omega)
      refine W_seq ?_
      refine W_region ?_
      refine WL_q rfl (ev_lss rfl rfl) ?_
      refine WL_nil ?_
      refine thenE_n ?_
      refine W_seq ?_
      refine W_cond rfl (fun hg46 => ?_) (fun hg46 => ?_)
      · have hp46 := of_decide_eq_true hg46
        refine W_skip ?_
        refine thenE_n ?_
        refine W_seq ?_
        refine W_block ?_
        refine W_seq ?_
        refine W_region ?_
        refine WL_q rfl (ev_move rfl) ?_
        have hklt : k < A.ends.length := by omega
        have h6k := h6 _ (List.getElem_mem hklt)
        have hl48 : k < A.ends.length := by omega
        have ht48 := totL_le hl48
        obtain ⟨a48, c48, hc48, hr48⟩ := hA.ends.row hl48
        refine WL_q rfl (ev_indexAddr Try.underlying29 sz46 rfl rfl (hA.ends.isSome (by omega)) (by omega) (by omega)) ?_
        refine WL_q rfl (ev_load one46 rfl (hc48)) ?_
        refine WL_q rfl (ev_assign rfl) ?_
        refine WL_q rfl (ev_assign rfl) ?_
        refine WL_nil ?_
        refine thenE_n ?_
        refine W_seq ?_
        refine W_region ?_
        refine WL_q rfl (ev_assign rfl) ?_
        refine WL_nil ?_
        refine thenE_n ?_
        refine W_seq ?_
        refine W_seq ?_
        refine W_region ?_
        refine WL_q rfl (ev_move rfl) ?_
        refine WL_q rfl (ev_len Try.underlying46 rfl) ?_
        refine WL_q rfl (ev_move rfl) ?_
        refine WL_nil ?_
        refine thenE_n ?_
        refine W_block ?_
        refine W_loopC (G := Nat) [(2, _), (4, _), (5, _), (11, _), (13, _), (14, _), (35, _), (36, _), (43, _), (44, _), (45, _), (50, _), (51, _)] ((Subs.c rfl (Subs.c rfl (Subs.c rfl (Subs.c rfl (Subs.c rfl (Subs.c rfl (Subs.c rfl (Subs.c rfl (Subs.c rfl (Subs.c rfl (Subs.c rfl (Subs.c rfl (Subs.c rfl Subs.n)))))))))))))) (fun u => [(16, VI (sumA (amtV A j) A.ends[k] u)), (52, VI (u : Int))]) (fun u w' => Ext wL4 w' ∧ u ≤ A.ends[k].length) (fun u => A.ends[k].length - u) 0 ((Subs.c rfl (Subs.c (lkI rfl (by omega)) Subs.n))) (⟨Ext.refl _, Nat.zero_le _⟩) ?_
        rintro u wL6 ⟨hRL6, hu'⟩
        have hzL6 := hRL6.size
        replace hE := hE.trans hRL6
        replace hRL2 := hRL2.trans hRL6
        replace hRL4 := hRL4.trans hRL6
        replace hA := hA.ext hRL6
        replace hB3 := hB3.ext hRL6
        replace hB5 := hB5.ext hRL6
        replace hBa := hBa.ext hRL6
        replace hBb := hBb.ext hRL6
        replace hBn := hBn.ext hRL6
        replace hr48 := hr48.ext hRL6
        have hsi := sum_in (t := j) hkA hklt hu'
        refine W_seq ?_
        refine W_region ?_
        refine WL_q rfl (ev_lss rfl rfl) ?_
        refine WL_nil ?_
        refine thenE_n ?_
        refine W_seq ?_
        refine W_cond rfl (fun hg53 => ?_) (fun hg53 => ?_)
        · have hp53 := of_decide_eq_true hg53
          refine W_skip ?_
          refine thenE_n ?_
          refine W_seq ?_
          refine W_block ?_
          refine W_seq ?_
          refine W_region ?_
          have hult : u < A.ends[k].length := by omega
          obtain ⟨he1, he2, he3, he4⟩ := hkA.end10 hklt hult
          have hai := amtV_in (t := j) hkA.kids he2
          rw [getD_eq (by omega)] at hai
          refine WL_q rfl (ev_indexAddr Try.underlying46 sz61 rfl rfl (hr48.isSome (by omega)) (by omega) (by omega)) ?_
          refine WL_q rfl (ev_loads st61 sz61 rfl (hr48.cells (i := u) (by omega)) rfl) ?_
          refine WL_m rfl (ev_alloc zr61) ?_
          rintro _ w18 ⟨rfl, hN18⟩
          have hz18 := hN18.size
          replace hE := hE.trans hN18.ext
          replace hRL2 := hRL2.trans hN18.ext
          replace hRL4 := hRL4.trans hN18.ext
          replace hRL6 := hRL6.trans hN18.ext
          replace hA := hA.ext hN18.ext
          replace hB3 := hB3.ext hN18.ext
          replace hB5 := hB5.ext hN18.ext
          replace hBa := hBa.ext hN18.ext
          replace hBb := hBb.ext hN18.ext
          replace hBn := hBn.ext hN18.ext
          replace hr48 := hr48.ext hN18.ext
          have hB18 : Blk w18 _ _ [_, _] := hN18.blk
          refine WL_s (ev_stores sz61 rfl rfl rfl (by simp [Value.oneCell']) hB18 (by simp)) ?_
          rintro _ w16_3 hS16_3
          have hz16_3 := hS16_3.size
          replace hE := hE.sto hS16_3 (by omega)
          replace hRL2 := hRL2.sto hS16_3 (by omega)
          replace hRL4 := hRL4.sto hS16_3 (by omega)
          replace hRL6 := hRL6.sto hS16_3 (by omega)
          replace hA := hA.sto hS16_3 (by omega)
          replace hB3 := hB3.sto hS16_3 (by omega)
          replace hB5 := hB5.sto hS16_3 (by omega)
          replace hBa := hBa.sto hS16_3 (by omega)
          replace hBb := hBb.sto hS16_3 (by omega)
          replace hBn := hBn.sto hS16_3 (by omega)
          replace hr48 := hr48.sto hS16_3 (by omega)
          replace hB18 : Blk w16_3 _ _ [_, _] := hS16_3.blk
          refine WL_nil ?_
          refine thenE_n ?_
          refine W_region ?_
          refine WL_q rfl (ev_move rfl) ?_
          refine WL_q rfl (ev_move rfl) ?_
          refine WL_q rfl (ev_fieldAddr fo61_0 rfl) ?_
          refine WL_q rfl (ev_load one3 rfl (hB18.cell rfl)) ?_
          refine WL_q rfl (ev_indexAddr Try.underlying23 sz3 rfl rfl rfl (by omega) (by omega)) ?_
          refine WL_q rfl (ev_load one3 rfl (icell hBb (i := A.ends[k][u].1.toNat) (by omega) (by omega))) ?_
          refine WL_q rfl (ev_add rfl rfl (by omega)) ?_
          refine WL_q rfl (ev_assign rfl) ?_
          refine WL_nil ?_
          refine blockE_n ?_
          refine thenE_n ?_
          refine W_region ?_
          refine WL_q rfl (ev_add rfl rfl (by omega)) ?_
          refine WL_q rfl (ev_move rfl) ?_
          refine WL_nil ?_
          refine thenE_n ?_
          exact ⟨u + 1, (Subs.c rfl (Subs.c rfl (Subs.c rfl (Subs.c rfl (Subs.c rfl (Subs.c rfl (Subs.c rfl (Subs.c rfl (Subs.c rfl (Subs.c rfl (Subs.c rfl (Subs.c rfl (Subs.c rfl Subs.n))))))))))))), (Subs.c (lkI rfl (sumA_succ hult (by omega))) (Subs.c (lkI rfl (by omega)) Subs.n)), ⟨hRL6, by omega⟩, by first | omega | (dsimp only; omega)⟩
        · have hp53 := of_decide_eq_false hg53
          refine W_exit ?_
          refine thenE_x ?_
          refine thenE_x ?_
          refine blockE_hit ?_
          refine thenE_n ?_
          refine W_region ?_
          refine WL_q rfl (ev_move rfl) ?_
          refine WL_q rfl (ev_move rfl) ?_
          refine WL_q rfl (ev_move rfl) ?_
          refine WL_q rfl (ev_move rfl) ?_
          refine WL_q rfl (ev_move rfl) ?_
          have hu9 : u = A.ends[k].length := by omega
          refine WL_m rfl (ev_callv rfl rfl (whole_spec nA A k _ b3 hklt _ hB3 hA hkA (by omega))) ?_
          rintro _ _ ⟨rfl, rfl⟩
          refine WL_q rfl (ev_move rfl) ?_
          refine WL_q rfl (ev_min rfl rfl) ?_
          refine WL_q rfl (ev_indexAddr Try.underlying23 sz3 rfl rfl rfl (by omega) (by omega)) ?_
          refine WL_s (ev_store sz3 rfl rfl rfl hBn (by simp; omega)) ?_
          rintro _ w19_9 hS19_9
          have hz19_9 := hS19_9.size
          replace hE := hE.sto hS19_9 (by omega)
          replace hRL2 := hRL2.sto hS19_9 (by omega)
          replace hRL4 := hRL4.sto hS19_9 (by omega)
          replace hA := hA.sto hS19_9 (by omega)
          replace hB3 := hB3.sto hS19_9 (by omega)
          replace hB5 := hB5.sto hS19_9 (by omega)
          replace hBa := hBa.sto hS19_9 (by omega)
          replace hBb := hBb.sto hS19_9 (by omega)
          replace hr48 := hr48.sto hS19_9 (by omega)
          replace hBn := hS19_9.blk
          replace hBn := iset (i := k) (by omega) hBn
          refine WL_nil ?_
          refine blockE_n ?_
          refine thenE_n ?_
          refine W_region ?_
          refine WL_q rfl (ev_add rfl rfl (by omega)) ?_
          refine WL_q rfl (ev_move rfl) ?_
          refine WL_nil ?_
          refine thenE_n ?_
          rw [fillU_set (by omega) (amt_at (t := j) hklt (by omega) hu9)] at hBn
          exact ⟨k + 1, (Subs.c rfl (Subs.c rfl (Subs.c rfl (Subs.c rfl (Subs.c rfl (Subs.c rfl (Subs.c rfl (Subs.c rfl (Subs.c rfl Subs.n))))))))), (Subs.c (lkI rfl (by omega)) Subs.n), ⟨hRL4, ⟨by omega, hBn⟩⟩, by first | omega | (dsimp only; omega)⟩
      · have hp46 := of_decide_eq_false hg46
        refine W_exit ?_
        refine thenE_x ?_
        refine thenE_x ?_
        refine blockE_hit ?_
        refine thenE_n ?_
        refine W_region ?_
        refine WL_q rfl (ev_move rfl) ?_
        refine WL_q rfl (ev_assign rfl) ?_
        refine WL_nil ?_
        refine blockE_n ?_
        refine thenE_n ?_
        refine W_region ?_
        refine WL_q rfl (ev_add rfl rfl (by omega)) ?_
        refine WL_q rfl (ev_move rfl) ?_
        refine WL_nil ?_
        refine thenE_n ?_
        rw [fillU_full (by omega)] at hBn
        exact ⟨(j + 1, wL2.heap.size), (Subs.c rfl (Subs.c rfl (Subs.c rfl (Subs.c rfl Subs.n)))), (Subs.c rfl (Subs.c (lkI rfl (by omega)) Subs.n)), ⟨hRL2, ⟨⟨by omega, by omega⟩, hBn⟩⟩, by first | omega | (dsimp only; omega)⟩
    · have hp37 := of_decide_eq_false hg37
      refine W_exit ?_
      refine thenE_x ?_
      refine thenE_x ?_
      refine blockE_hit ?_
      refine thenE_n ?_
      refine W_seq ?_
      refine W_region ?_
      refine WL_q rfl (ev_move rfl) ?_
      refine WL_q rfl (ev_assign rfl) ?_
      refine WL_nil ?_
      refine thenE_n ?_
      refine W_ret ?_
      refine ret1 rfl rfl ?_
      have hj9 : d.toNat = j := by omega
      exact ⟨some ⟨ga, 0, none⟩, A.ends.length, rfl, by rw [hj9]; exact (FInts.of_blk hBb (by omega) hBb.lt (by omega)).is, hE⟩

def WVS (A : Net) (nA : NA) (loA hiA : Nat) (t : Int) : Prop := ∀ (v : Int) (lo b g : Nat) (l : List UInt8) (w : World), IsNet loA hiA w nA A → hiA ≤ lo → lo ≤ w.heap.size → 0 ≤ v → v.toNat < A.ends.length → BW 51 5 lo b g w l → l.length + (txtV A t.toNat v.toNat).length ≤ 1048576 → Fn Try.prog 22 #[ptr b 0, netV nA A, VI v, VI t] w (fun o9 w' => o9 = .tuple #[] ∧ ∃ g', BW 51 5 lo b g' w' (l ++ txtV A t.toNat v.toNat) ∧ (g' = g ∨ w.heap.size ≤ g') ∧ K2 b g w w')

set_option maxHeartbeats 2000000 in
set_option maxRecDepth 100000 in
theorem writeView_step {loA hiA : Nat} (nA : NA) (A : Net) (t v : Int) (lo b g : Nat) (l : List UInt8) (w : World) (ih : ∀ t' : Int, 0 ≤ t' → t' < t → WVS A nA loA hiA t') (hkA : NOk A) (ht : 0 ≤ t ∧ t ≤ 80) (hA : IsNet loA hiA w nA A) (hh : hiA ≤ lo) (hlo : lo ≤ w.heap.size) (hv : 0 ≤ v) (hv2 : v.toNat < A.ends.length) (hb : BW 51 5 lo b g w l) (hlen : l.length + (txtV A t.toNat v.toNat).length ≤ 1048576) :
    Fn Try.prog 22 #[ptr b 0, netV nA A, VI v, VI t] w (fun o9 w' => o9 = .tuple #[] ∧ ∃ g', BW 51 5 lo b g' w' (l ++ txtV A t.toNat v.toNat) ∧ (g' = g ∨ w.heap.size ≤ g') ∧ K2 b g w w') := by
  have hndA := hkA.nodes
  have hinA := hkA.inLen
  have h6 := hkA.six
  have hK2 : K2 b g w w := K2.refl
  have hlw := hb.low
  have hbl := hb.lt
  have h6v := h6 _ (List.getElem_mem hv2)
  have h9v := allR_at hkA.inputs (show v.toNat < A.inputs.length by omega)
  have htp := txtV_pos (A := A) (t := t.toNat) (v := v.toNat)
  have hrv := rowV_at (A := A) hv2
  have hhd : headV A v.toNat = [digB ((A.ends[v.toNat]).length : Int), 46, digB (A.inputs[v.toNat]'(by omega))] := by unfold headV; rw [hrv, getD_eq (show v.toNat < A.inputs.length by omega)]
  have hhl : (headV A v.toNat).length = 3 := rfl
  refine Fn_of Try.func22 rfl rfl (by kernel_rfl) rfl ?_
  refine W_seq ?_
  refine W_region ?_
  refine WL_m rfl (ev_box rfl) ?_
  rintro _ w5 ⟨rfl, hN5⟩
  have hz5 := hN5.size
  replace hK2 := hK2.trans hN5.ext
  replace hA := hA.ext hN5.ext
  replace hb := hb.ext hN5.ext
  have hB5 : Blk w5 _ _ [_, _, _] := hN5.blk
  refine WL_nil ?_
  refine thenE_n ?_
  refine W_seq ?_
  refine W_drawY (X := Nat) (fun x => []) (fun x w' => BW 51 5 lo b x w' (l ++ headV A v.toNat) ∧ (x = g ∨ w.heap.size < x) ∧ K2 b g w w' ∧ IsNet loA hiA w' nA A ∧ Blk w' w.heap.size 31 [.slice nA.a1 A.ends.length nA.c1, .slice nA.a2 A.ids.length nA.c2, .slice nA.a3 A.inputs.length nA.c3]) 15 0 0 0 0 lo w.heap.size 0 0 (.q 0 (.h 1 (.h 2 (.h 3 (.h 4 (.h 5 (.h 6 (.h 8 (.h 9 (.h 10 (.h 11 (.h 12 (.a 7 (.a 13 (.a 14 (.z 15 .done)))))))))))))))) mixed (by kernel_rfl) rfl (by kernel_rfl) ?_ ?_
  · intro wd1 hEd1 hzd1
    replace hK2 := hK2.trans hEd1
    replace hA := hA.ext hEd1
    replace hb := hb.ext hEd1
    replace hB5 := hB5.ext hEd1
    have hSd1 := (Rg.refl : Rg 0 0 0 0 wd1 wd1)
    have hUd1 := (Rg.refl : Rg lo w.heap.size 0 0 wd1 wd1)
    refine PY_q rfl rfl (fun wq hq => ev_move rfl) ?_
    refine PY_h rfl rfl (fun wq hq => ev_fieldAddr fo31_0 rfl) ?_
    refine PY_h rfl rfl (fun wq hq => ev_load one29 rfl ((hB5.rg hq.1 (by omega)).cell rfl)) ?_
    refine PY_h rfl rfl (fun wq hq => ev_move rfl) ?_
    have hl15 : v.toNat < A.ends.length := by omega
    have ht15 := totL_le hl15
    obtain ⟨a15, c15, hc15, hr15⟩ := hA.ends.row hl15
    refine PY_h rfl rfl (fun wq hq => ev_indexAddr Try.underlying29 sz46 rfl rfl (hA.ends.isSome (by omega)) (by omega) (by omega)) ?_
    refine PY_h rfl rfl (fun wq hq => ev_load one46 rfl (hq.1.cell' hc15 (by have := hA.ends.rng (Nat.lt_of_le_of_lt (Nat.zero_le _) hl15); omega))) ?_
    refine PY_h rfl rfl (fun wq hq => ev_len Try.underlying46 rfl) ?_
    refine PY_h rfl rfl (fun wq hq => ev_fieldAddr fo31_2 rfl) ?_
    refine PY_h rfl rfl (fun wq hq => ev_load one23 rfl ((hB5.rg hq.1 (by omega)).cell rfl)) ?_
    refine PY_h rfl rfl (fun wq hq => ev_move rfl) ?_
    refine PY_h rfl rfl (fun wq hq => ev_indexAddr Try.underlying23 sz3 rfl rfl (hA.inputs.isSome (by omega)) (by omega) (by omega)) ?_
    refine PY_h rfl rfl (fun wq hq => ev_load one3 rfl ((hA.inputs.rg hq.1 (by omega)).cellJ (i := v.toNat) (j := v.toNat) (by omega) (by omega))) ?_
    refine PY_a ?_
    refine PB_m 0 0 0 0 lo w.heap.size 0 0 rfl rfl (ev_call rfl (digit_spec _ _ (by omega))) ?_
    rintro _ _ ⟨rfl, rfl⟩
    refine ⟨fun _ hx => ⟨hSd1.rg hx (by omega), trivial⟩, fun _ hx => ⟨hUd1.rg hx (by omega), trivial⟩, ?_⟩
    have hSd1 := (Rg.refl : Rg 0 0 0 0 wd1 wd1)
    have hUd1 := (Rg.refl : Rg lo w.heap.size 0 0 wd1 wd1)
    refine PY_a ?_
    refine PB_m 0 0 0 0 lo w.heap.size 0 0 rfl rfl (ev_call rfl (digit_spec _ _ (by omega))) ?_
    rintro _ _ ⟨rfl, rfl⟩
    refine ⟨fun _ hx => ⟨hSd1.rg hx (by omega), trivial⟩, fun _ hx => ⟨hUd1.rg hx (by omega), trivial⟩, ?_⟩
    have hSd1 := (Rg.refl : Rg 0 0 0 0 wd1 wd1)
    have hUd1 := (Rg.refl : Rg lo w.heap.size 0 0 wd1 wd1)
    refine PY_a ?_
    refine PB_m 0 0 0 0 lo w.heap.size 0 0 rfl rfl (ev_lit3V Try.underlying49 el5 rfl rfl rfl rfl rfl rfl) ?_
    rintro _ w25 ⟨rfl, hN25⟩
    have hz25 := hN25.size
    replace hK2 := hK2.trans hN25.ext
    replace hSd1 := hSd1.trans hN25.ext
    replace hUd1 := hUd1.trans hN25.ext
    replace hA := hA.ext hN25.ext
    replace hb := hb.ext hN25.ext
    replace hB5 := hB5.ext hN25.ext
    replace hr15 := hr15.ext hN25.ext
    have hB25 := hN25.blk
    refine ⟨fun _ hx => ⟨hSd1.rg hx (by omega), trivial⟩, fun _ hx => ⟨hUd1.rg hx (by omega), trivial⟩, ?_⟩
    have hSd1 := (Rg.refl : Rg 0 0 0 0 w25 w25)
    have hUd1 := (Rg.refl : Rg lo w.heap.size 0 0 w25 w25)
    refine PY_z ?_
    refine PB_m lo w.heap.size 0 0 lo w.heap.size 0 0 rfl rfl (ev_call rfl (Write_spec b g l (headV A v.toNat) 3 3 _ hb (by omega) (by rw [hhd]; exact (SAt.of_blk (cs := Lib.byteCells [digB ((A.ends[v.toNat]).length : Int), 46, digB (A.inputs[v.toNat]'(by omega))]) (ds := []) hB25)) ⟨hB25.lt, by omega, by omega⟩ rfl (by omega))) ?_
    rintro _ w26 ⟨rfl, g26, hb, hg26, hK26⟩
    have hz26 := hK26.size
    replace hK2 := hK2.k2 hK26 (by omega)
    replace hUd1 := hUd1.k2 hK26 (by omega)
    replace hA := hA.k2 hK26 (by omega)
    replace hB5 := hB5.k2 hK26 (by omega)
    replace hr15 := hr15.k2 hK26 (by omega)
    have hlw26 := hb.low
    refine ⟨fun _ _ => trivial, fun _ hx => ⟨hUd1.rg hx (by omega), trivial⟩, ?_⟩
    have hSd1 := (Rg.refl : Rg lo w.heap.size 0 0 w26 w26)
    have hUd1 := (Rg.refl : Rg lo w.heap.size 0 0 w26 w26)
    exact PY_nil 16 g26 rfl trivial rfl ⟨hb, by omega, hK2, hA, hB5⟩
  rintro g26 wt1 ⟨hb, hg26, hK2, hA, hB5⟩
  dsimp only [List.cons_append, List.nil_append]
  have hlw26 := hb.low
  have hz26 := hK2.size
  have hb5 := hB5.lt
  refine thenE_n ?_
  refine W_seq ?_
  refine W_seq ?_
  refine W_region ?_
  refine WL_q rfl (ev_move rfl) ?_
  refine WL_q rfl (ev_eql rfl rfl) ?_
  refine WL_q rfl (ev_move rfl) ?_
  refine WL_splitv (t := 29) rfl (fun hg28 => ?_) (fun hg28 => ?_)
  · have hp28 := of_decide_eq_true hg28
    refine WL_no rfl rfl hg28 rfl ?_
    refine WL_no rfl rfl hg28 rfl ?_
    refine WL_no rfl rfl hg28 rfl ?_
    refine WL_no rfl rfl hg28 rfl ?_
    refine WL_no rfl rfl hg28 rfl ?_
    refine WL_no rfl rfl hg28 rfl ?_
    refine WL_no rfl rfl hg28 rfl ?_
    refine WL_q rfl (ev_pick_t rfl hg28 rfl) ?_
    refine WL_nil ?_
    refine thenE_n ?_
    refine W_cond_t rfl ?_
    refine W_ret ?_
    refine thenE_r ?_
    refine ret0 rfl ?_
    first | (exact ⟨rfl, g26, hb.to (by rw [show t.toNat = 0 by omega, txtV_zero]), by omega, hK2⟩) | (exact ⟨rfl, g26, hb.to (by rw [txtV_leaf (by rw [hrv]; omega)]), by omega, hK2⟩) | (exact ⟨rfl, g64, hb.to (by rw [htl]; simp), by omega, hK2⟩)
  · have hp28 := of_decide_eq_false hg28
    refine WL_qg rfl rfl hg28 rfl (ev_fieldAddr fo31_0 rfl) ?_
    refine WL_qg rfl rfl hg28 rfl (ev_load one29 rfl (hB5.cell rfl)) ?_
    refine WL_qg rfl rfl hg28 rfl (ev_move rfl) ?_
    have hl33 : v.toNat < A.ends.length := by omega
    have ht33 := totL_le hl33
    obtain ⟨a33, c33, hc33, hr33⟩ := hA.ends.row hl33
    refine WL_qg rfl rfl hg28 rfl (ev_indexAddr Try.underlying29 sz46 rfl rfl (hA.ends.isSome (by omega)) (by omega) (by omega)) ?_
    refine WL_qg rfl rfl hg28 rfl (ev_load one46 rfl (hc33)) ?_
    refine WL_qg rfl rfl hg28 rfl (ev_len Try.underlying46 rfl) ?_
    refine WL_qg rfl rfl hg28 rfl (ev_eql rfl rfl) ?_
    refine WL_q rfl (ev_pick_f rfl hg28 rfl) ?_
    refine WL_nil ?_
    refine thenE_n ?_
    refine W_cond rfl (fun hg36 => ?_) (fun hg36 => ?_)
    · have hp36 := of_decide_eq_true hg36
      refine W_ret ?_
      refine thenE_r ?_
      refine ret0 rfl ?_
      first | (exact ⟨rfl, g26, hb.to (by rw [show t.toNat = 0 by omega, txtV_zero]), by omega, hK2⟩) | (exact ⟨rfl, g26, hb.to (by rw [txtV_leaf (by rw [hrv]; omega)]), by omega, hK2⟩) | (exact ⟨rfl, g64, hb.to (by rw [htl]; simp), by omega, hK2⟩)
    · have hp36 := of_decide_eq_false hg36
      refine W_skip ?_
      refine thenE_n ?_
      refine W_seq ?_
      refine W_region ?_
      refine WL_q rfl (ev_assign rfl) ?_
      refine WL_nil ?_
      refine thenE_n ?_
      refine W_seq ?_
      refine W_seq ?_
      refine W_region ?_
      refine WL_q rfl (ev_fieldAddr fo31_0 rfl) ?_
      refine WL_q rfl (ev_load one29 rfl (hB5.cell rfl)) ?_
      refine WL_q rfl (ev_move rfl) ?_
      have hl41 : v.toNat < A.ends.length := by omega
      have ht41 := totL_le hl41
      obtain ⟨a41, c41, hc41, hr41⟩ := hA.ends.row hl41
      refine WL_q rfl (ev_indexAddr Try.underlying29 sz46 rfl rfl (hA.ends.isSome (by omega)) (by omega) (by omega)) ?_
      refine WL_q rfl (ev_load one46 rfl (hc41)) ?_
      refine WL_q rfl (ev_len Try.underlying46 rfl) ?_
      refine WL_q rfl (ev_move rfl) ?_
      refine WL_nil ?_
      refine thenE_n ?_
      refine W_block ?_
      have hts : t.toNat = (t - 1).toNat + 1 := by omega
      have htl : txtV A t.toNat v.toNat = headV A v.toNat ++ (brV (fun x => txtV A (t - 1).toNat x.toNat) (A.ends[v.toNat]) (A.ends[v.toNat]).length ++ [41]) := by rw [hts, txtV_succ (by rw [hrv]; omega), hrv]
      have htll := congrArg List.length htl
      simp only [List.length_append, List.length_cons, List.length_nil] at htll
      refine W_loopC (G := Nat × Nat) [(0, _), (3, _), (5, _), (42, _), (43, _)] ((Subs.c rfl (Subs.c rfl (Subs.c rfl (Subs.c rfl (Subs.c rfl Subs.n)))))) (fun ⟨k, gk⟩ => [(8, .int .u8 ((sepB k).toNat : Int)), (44, VI (k : Int))]) (fun ⟨k, gk⟩ w' => K2 b g26 wt1 w' ∧ k ≤ (A.ends[v.toNat]).length ∧ BW 51 5 lo b gk w' (l ++ headV A v.toNat ++ brV (fun x => txtV A (t - 1).toNat x.toNat) (A.ends[v.toNat]) k) ∧ (gk = g26 ∨ wt1.heap.size ≤ gk)) (fun g => (A.ends[v.toNat]).length - g.1) (0, g26) ((Subs.c rfl (Subs.c (lkI rfl (by omega)) Subs.n))) (⟨K2.refl, ⟨Nat.zero_le _, hb.to (by simp [brV]), .inl rfl⟩⟩) ?_
      rintro ⟨k, gk⟩ wL0 ⟨hRL0, hk', hb, hgk⟩
      have hzL0 := hRL0.size
      replace hA := hA.k2 hRL0 (by omega)
      replace hB5 := hB5.k2 hRL0 (by omega)
      replace hr33 := hr33.k2 hRL0 (by omega)
      replace hr41 := hr41.k2 hRL0 (by omega)
      replace hK2 := hK2.k2 hRL0 (by omega)
      have hlk := hb.low
      refine W_seq ?_
      refine W_region ?_
      refine WL_q rfl (ev_lss rfl rfl) ?_
      refine WL_nil ?_
      refine thenE_n ?_
      refine W_seq ?_
      refine W_cond rfl (fun hg45 => ?_) (fun hg45 => ?_)
      · have hp45 := of_decide_eq_true hg45
        refine W_skip ?_
        refine thenE_n ?_
        refine W_seq ?_
        refine W_block ?_
        refine W_seq ?_
        refine W_region ?_
        have hlk9 : k < (A.ends[v.toNat]).length := by omega
        obtain ⟨he1, he2, he3, he4⟩ := hkA.end10 hv2 hlk9
        have hbm := brV_mono (f := (fun x => txtV A (t - 1).toNat x.toNat)) (es := (A.ends[v.toNat])) (i := k + 1) (n := (A.ends[v.toNat]).length) (by omega)
        have hbs := brV_slen (f := (fun x => txtV A (t - 1).toNat x.toNat)) (es := (A.ends[v.toNat])) hlk9
        refine WL_q rfl (ev_indexAddr Try.underlying46 sz61 rfl rfl (hr41.isSome (by omega)) (by omega) (by omega)) ?_
        refine WL_q rfl (ev_loads st61 sz61 rfl (hr41.cells (i := k) (by omega)) rfl) ?_
        refine WL_m rfl (ev_alloc zr61) ?_
        rintro _ w10 ⟨rfl, hN10⟩
        have hz10 := hN10.size
        replace hK2 := hK2.trans hN10.ext
        replace hRL0 := hRL0.trans hN10.ext
        replace hA := hA.ext hN10.ext
        replace hB5 := hB5.ext hN10.ext
        replace hr33 := hr33.ext hN10.ext
        replace hr41 := hr41.ext hN10.ext
        replace hb := hb.ext hN10.ext
        have hB10 : Blk w10 _ _ [_, _] := hN10.blk
        refine WL_s (ev_stores sz61 rfl rfl rfl (by simp [Value.oneCell']) hB10 (by simp)) ?_
        rintro _ w6_3 hS6_3
        have hz6_3 := hS6_3.size
        replace hK2 := hK2.sto hS6_3 (by omega)
        replace hRL0 := hRL0.sto hS6_3 (by omega)
        replace hA := hA.sto hS6_3 (by omega)
        replace hB5 := hB5.sto hS6_3 (by omega)
        replace hr33 := hr33.sto hS6_3 (by omega)
        replace hr41 := hr41.sto hS6_3 (by omega)
        replace hb := hb.sto hS6_3 (by omega)
        replace hB10 : Blk w6_3 _ _ [_, _] := hS6_3.blk
        refine WL_nil ?_
        refine thenE_n ?_
        refine W_seq ?_
        refine W_region ?_
        refine WL_q rfl (ev_move rfl) ?_
        refine WL_q rfl (ev_move rfl) ?_
        refine WL_q rfl (ev_fieldAddr fo61_1 rfl) ?_
        refine WL_q rfl (ev_load one3 rfl (hB10.cell rfl)) ?_
        refine WL_m rfl (ev_call rfl (digit_spec _ _ (by omega))) ?_
        rintro _ _ ⟨rfl, rfl⟩
        refine WL_m rfl (ev_lit3V Try.underlying49 el5 rfl rfl rfl rfl rfl rfl) ?_
        rintro _ w53 ⟨rfl, hN53⟩
        have hz53 := hN53.size
        replace hK2 := hK2.trans hN53.ext
        replace hRL0 := hRL0.trans hN53.ext
        replace hA := hA.ext hN53.ext
        replace hB5 := hB5.ext hN53.ext
        replace hr33 := hr33.ext hN53.ext
        replace hr41 := hr41.ext hN53.ext
        replace hb := hb.ext hN53.ext
        replace hB10 := hB10.ext hN53.ext
        have hB53 := hN53.blk
        refine WL_m rfl (ev_call rfl (Write_spec b gk _ [sepB k, digB (A.ends[v.toNat])[k].2, 58] 3 3 _ hb (by omega) (SAt.of_blk (cs := Lib.byteCells [sepB k, digB (A.ends[v.toNat])[k].2, 58]) (ds := []) hB53) ⟨hB53.lt, by omega, by omega⟩ rfl (by simp only [List.length_append]; omega))) ?_
        rintro _ w54 ⟨rfl, g54, hb, hg54, hK54⟩
        have hz54 := hK54.size
        replace hK2 := hK2.k2 hK54 (by omega)
        replace hRL0 := hRL0.k2 hK54 (by omega)
        replace hA := hA.k2 hK54 (by omega)
        replace hB5 := hB5.k2 hK54 (by omega)
        replace hr33 := hr33.k2 hK54 (by omega)
        replace hr41 := hr41.k2 hK54 (by omega)
        replace hB10 := hB10.k2 hK54 (by omega)
        have hlw54 := hb.low
        refine WL_nil ?_
        refine thenE_n ?_
        refine W_seq ?_
        refine W_region ?_
        refine WL_q rfl (ev_move rfl) ?_
        refine WL_q rfl (ev_loads st31 sz31 rfl (cellsB hB5) rfl) ?_
        refine WL_q rfl (ev_fieldAddr fo61_0 rfl) ?_
        refine WL_q rfl (ev_load one3 rfl (hB10.cell rfl)) ?_
        refine WL_q rfl (ev_move rfl) ?_
        refine WL_q rfl (ev_sub rfl rfl (by omega)) ?_
        refine WL_m rfl (ev_call rfl (ih (t - 1) (by omega) (by omega) _ lo b g54 _ _ hA (by omega) (by omega) he1 he2 hb (by simp only [List.length_append, List.length_cons, List.length_nil]; omega))) ?_
        rintro _ w61 ⟨rfl, g61, hb, hg61, hK61⟩
        have hz61 := hK61.size
        replace hK2 := hK2.k2 hK61 (by omega)
        replace hRL0 := hRL0.k2 hK61 (by omega)
        replace hA := hA.k2 hK61 (by omega)
        replace hB5 := hB5.k2 hK61 (by omega)
        replace hr33 := hr33.k2 hK61 (by omega)
        replace hr41 := hr41.k2 hK61 (by omega)
        replace hB10 := hB10.k2 hK61 (by omega)
        have hlw61 := hb.low
        refine WL_nil ?_
        refine thenE_n ?_
        refine W_region ?_
        refine WL_q rfl (ev_assign rfl) ?_
        refine WL_nil ?_
        refine blockE_n ?_
        refine thenE_n ?_
        refine W_region ?_
        refine WL_q rfl (ev_add rfl rfl (by omega)) ?_
        refine WL_q rfl (ev_move rfl) ?_
        refine WL_nil ?_
        refine thenE_n ?_
        exact ⟨(k + 1, g61), (Subs.c rfl (Subs.c rfl (Subs.c rfl (Subs.c rfl (Subs.c rfl Subs.n))))), (Subs.c rfl (Subs.c (lkI rfl (by omega)) Subs.n)), ⟨hRL0, ⟨by omega, hb.to (brV_step hlk9), by omega⟩⟩, by first | omega | (dsimp only; omega)⟩
      · have hp45 := of_decide_eq_false hg45
        refine W_exit ?_
        refine thenE_x ?_
        refine thenE_x ?_
        refine blockE_hit ?_
        refine thenE_n ?_
        refine W_region ?_
        have hk9 : k = (A.ends[v.toNat]).length := by omega
        rw [hk9] at hb
        refine WL_q rfl (ev_move rfl) ?_
        refine WL_m rfl (ev_call rfl (WriteByte_spec b gk _ 41 _ hb (by omega) (by simp only [List.length_append]; omega))) ?_
        rintro _ w64 ⟨rfl, g64, hb, hg64, hK64⟩
        have hz64 := hK64.size
        replace hK2 := hK2.k2 hK64 (by omega)
        replace hA := hA.k2 hK64 (by omega)
        replace hB5 := hB5.k2 hK64 (by omega)
        replace hr33 := hr33.k2 hK64 (by omega)
        replace hr41 := hr41.k2 hK64 (by omega)
        have hlw64 := hb.low
        refine WL_nil ?_
        refine ret0n rfl ?_
        first | (exact ⟨rfl, g26, hb.to (by rw [show t.toNat = 0 by omega, txtV_zero]), by omega, hK2⟩) | (exact ⟨rfl, g26, hb.to (by rw [txtV_leaf (by rw [hrv]; omega)]), by omega, hK2⟩) | (exact ⟨rfl, g64, hb.to (by rw [htl]; simp), by omega, hK2⟩)

end Go.Proofs.Yticlopepmnlkmaa
