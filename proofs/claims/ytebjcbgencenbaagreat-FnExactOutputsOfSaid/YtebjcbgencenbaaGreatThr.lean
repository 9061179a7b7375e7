/- A contract of coThrough. -/
import Derived.Test.YtebjcbgencenbaaGreatMarkI
import Derived.Test.YtebjcbgencenbaaGreatLists
namespace Go.Proofs.YtebjcbgencenbaaGreat
open Go Go.RowKit

set_option maxRecDepth 100000 in
theorem coThrough_spec {lol hil : Nat} (al : Option Addr) (cl : Nat) (l : List Int) {lom him : Nat} (am : Option Addr) (cm : Nat) (m : List Int) (w : World) (hl : Ints lol hil w al cl l) (hhil : hil ≤ w.heap.size) (hnl : l.length ≤ 1048576) (hm : Ints lom him w am cm m) (hhim : him ≤ w.heap.size) (hnm : m.length ≤ 1048576) (hr : ∀ i (h : i < m.length), 0 ≤ m[i] ∧ m[i].toNat < l.length) :
    Fn Tryz.prog 24 #[.slice al l.length cl, .slice am m.length cm] w (fun o9 w' => ∃ a' c', o9 = .slice a' (thr l m).length c' ∧ Own w.heap.size w' 3 1 a' (thr l m).length c' ((thr l m).map VI) ∧ Ext w w') := by
  have htl := thr_len l m
  have hE := Ext.refl w
  refine Fn_of Tryz.func24 rfl rfl (by kernel_rfl) rfl ?_
  refine W_seq ?_
  refine W_region ?_
  refine WL_q rfl (ev_assign rfl) ?_
  refine WL_nil ?_
  refine thenE_n ?_
  refine W_seq ?_
  refine W_region ?_
  refine WL_q rfl (ev_assign rfl) ?_
  refine WL_nil ?_
  refine thenE_n ?_
  refine W_seq ?_
  refine W_seq ?_
  refine W_region ?_
  refine WL_q rfl (ev_move rfl) ?_
  refine WL_q rfl (ev_len Tryz.underlying24 rfl) ?_
  refine WL_q rfl (ev_move rfl) ?_
  refine WL_nil ?_
  refine thenE_n ?_
  refine W_block ?_
  refine W_loopC (G := Nat × Option Addr × Nat) [(0, _), (8, _), (9, _)] ((Subs.c rfl (Subs.c rfl (Subs.c rfl Subs.n)))) (fun ⟨i, a, c⟩ => [(5, .slice a i c), (10, VI (i : Int))]) (fun ⟨i, a, c⟩ w' => Ext w w' ∧ i ≤ m.length ∧ OwnH w.heap.size w'.heap.size 0 0 w' 3 1 a i c (((thr l m).take i).map VI)) (fun g => m.length - g.1) (0, none, 0) ((Subs.c rfl (Subs.c (lkI rfl (by omega)) Subs.n))) (⟨Ext.refl _, ⟨by omega, OwnH.nil⟩⟩) ?_
  rintro ⟨i, a, c⟩ wL0 ⟨hRL0, hi', hO⟩
  have hzL0 := hRL0.size
  replace hE := hE.trans hRL0
  replace hl := hl.ext hRL0
  replace hm := hm.ext hRL0
  refine W_seq ?_
  refine W_region ?_
  refine WL_q rfl (ev_lss rfl rfl) ?_
  refine WL_nil ?_
  refine thenE_n ?_
  refine W_seq ?_
  refine W_cond rfl (fun hg11 => ?_) (fun hg11 => ?_)
  · have hp11 := of_decide_eq_true hg11
    refine W_skip ?_
    refine thenE_n ?_
    refine W_seq ?_
    refine W_block ?_
    refine W_seq ?_
    refine W_region ?_
    have hlt : i < m.length := by omega
    have hrg := hr _ hlt
    have hr1 := hrg.1
    have hr2 := hrg.2
    refine WL_q rfl (ev_indexAddr Tryz.underlying24 sz3 rfl rfl (hm.isSome (by omega)) (by omega) (by omega)) ?_
    refine WL_q rfl (ev_load one3 rfl (hm.cell (i := i) (by omega))) ?_
    refine WL_q rfl (ev_assign rfl) ?_
    refine WL_nil ?_
    refine thenE_n ?_
    refine W_region ?_
    refine WL_q rfl (ev_move rfl) ?_
    refine WL_q rfl (ev_move rfl) ?_
    refine WL_q rfl (ev_move rfl) ?_
    refine WL_q rfl (ev_indexAddr Tryz.underlying24 sz3 rfl rfl (hl.isSome (by omega)) (by omega) (by omega)) ?_
    refine WL_q rfl (ev_load one3 rfl (hl.cell (i := m[i].toNat) (by omega))) ?_
    refine WL_m rfl (ev_lit1 Tryz.underlying24 el3 (by decide) (by decide) rfl rfl) ?_
    rintro _ w19 ⟨rfl, hN19⟩
    have hz19 := hN19.size
    replace hE := hE.trans hN19.ext
    replace hRL0 := hRL0.trans hN19.ext
    replace hl := hl.ext hN19.ext
    replace hm := hm.ext hN19.ext
    replace hO := hO.ext hN19.ext
    have hB19 := hN19.blk
    refine WL_m rfl (ev_appendT Tryz.underlying24 el3 rfl (by decide) rfl rfl hO (SAt.of_blk (cs := [_]) (ds := []) hB19) rfl (by simp [Value.oneCell']) (by omega) (by unfold maxLen; omega) (by omega)) ?_
    rintro _ w20 ⟨a20, c20, rfl, hO20, hK20, hQ20⟩
    have hz20 := hK20.size
    replace hE := hE.rg hK20 (by omega)
    replace hRL0 := hRL0.rg hK20 (by omega)
    replace hl := hl.rg hK20 (by omega)
    replace hm := hm.rg hK20 (by omega)
    replace hB19 := hB19.rg hK20 (by omega)
    replace hO := hO20
    replace hO := ownt_snocI hO
    refine WL_q rfl (ev_assign rfl) ?_
    refine WL_nil ?_
    refine blockE_n ?_
    refine thenE_n ?_
    refine W_region ?_
    refine WL_q rfl (ev_add rfl rfl (by omega)) ?_
    refine WL_q rfl (ev_move rfl) ?_
    refine WL_nil ?_
    refine thenE_n ?_
    exact ⟨(i + 1, a20, c20), (Subs.c rfl (Subs.c rfl (Subs.c rfl Subs.n))), (Subs.c rfl (Subs.c (lkI rfl (by omega)) Subs.n)), ⟨hRL0, ⟨by omega, (ownt_take hO (by omega) (thr_at hlt (h2 := by omega) (by omega))).up (Nat.le_refl _) (by omega)⟩⟩, by first | omega | (dsimp only; omega)⟩
  · have hp11 := of_decide_eq_false hg11
    refine W_exit ?_
    refine thenE_x ?_
    refine thenE_x ?_
    refine blockE_hit ?_
    refine thenE_n ?_
    refine W_seq ?_
    refine W_region ?_
    refine WL_q rfl (ev_move rfl) ?_
    refine WL_q rfl (ev_assign rfl) ?_
    refine WL_nil ?_
    refine thenE_n ?_
    refine W_ret ?_
    refine ret1 rfl rfl ?_
    have hi9 : i = (thr l m).length := by omega
    subst hi9
    exact ⟨_, _, rfl, by rw [List.take_length] at hO; exact hO.1.mono (by omega), hE⟩

end Go.Proofs.YtebjcbgencenbaaGreat
