/- Contracts of the functions that mark what was handed in or came back, and of those that look whether the marks stand. -/
import Derived.Test.YtladejfcplpnaaaData
import Derived.Test.YtladejfcplpnaaaMark0
namespace Go.Proofs.Ytladejfcplpnaaa
open Go Go.RowKit

set_option maxRecDepth 100000 in
theorem markIntS_blk (g : Nat) (T : TypeId) (cs : List Value) (n c : Nat) (k : Int) (w : World) (hB : Blk w g T cs) (hl : n ≤ cs.length) (hk : 0 ≤ k ∧ k ≤ 1125899906842624) (hn : n ≤ 1048576) :
    Fn Try.prog 21 #[.slice (some ⟨g, 0, none⟩) n c, VI k] w (fun v w' => v = VI (k + (n : Int)) ∧ Blk w' g T (mix k cs n) ∧ KX g w w') := by
  refine Fn_of Try.func21 rfl rfl (by kernel_rfl) rfl ?_
  refine W_seq ?_
  refine W_region ?_
  refine WL_q rfl (ev_assign rfl) ?_
  refine WL_nil ?_
  refine thenE_n ?_
  refine W_seq ?_
  refine W_seq ?_
  refine W_region ?_
  refine WL_q rfl (ev_assign rfl) ?_
  refine WL_nil ?_
  refine thenE_n ?_
  refine W_block ?_
  refine W_loopC (G := Nat) [(0, _)] ((Subs.c rfl Subs.n)) (fun i => [(1, VI (k + (i : Int))), (5, VI (i : Int))]) (fun i w' => KX (g) w w' ∧ i ≤ n ∧ Blk w' g T (mix k cs i)) (fun i => n - i) 0 ((Subs.c (lkI rfl (by omega)) (Subs.c (lkI rfl (by omega)) Subs.n))) (⟨KX.refl _ _, ⟨by omega, by rw [mix_zero]; exact hB⟩⟩) ?_
  rintro i wL0 ⟨hRL0, hi', hBi⟩
  have hzL0 := hRL0.size
  refine W_seq ?_
  refine W_seq ?_
  refine W_region ?_
  refine WL_q rfl (ev_move rfl) ?_
  refine WL_q rfl (ev_move rfl) ?_
  refine WL_q rfl (ev_len Try.underlying23 rfl) ?_
  refine WL_q rfl (ev_lss rfl rfl) ?_
  refine WL_nil ?_
  refine thenE_n ?_
  refine W_cond rfl (fun hg9 => ?_) (fun hg9 => ?_)
  · have hp9 := of_decide_eq_true hg9
    refine W_skip ?_
    refine thenE_n ?_
    refine W_seq ?_
    refine W_block ?_
    refine W_seq ?_
    refine W_region ?_
    refine WL_q rfl (ev_move rfl) ?_
    refine WL_q rfl (ev_move rfl) ?_
    refine WL_q rfl (ev_move rfl) ?_
    refine WL_q rfl (ev_indexAddr Try.underlying23 sz3 rfl rfl rfl (by omega) (by omega)) ?_
    refine WL_s (ev_store sz3 rfl rfl rfl hBi (by have := mix_len (k := k) (cs := cs) (i := i) (by omega); omega)) ?_
    rintro _ w4_4 hS4_4
    have hz4_4 := hS4_4.size
    replace hRL0 := hRL0.sto hS4_4 (by omega)
    replace hBi := hS4_4.blk
    refine WL_nil ?_
    refine thenE_n ?_
    refine W_region ?_
    refine WL_q rfl (ev_move rfl) ?_
    refine WL_q rfl (ev_add rfl rfl (by omega)) ?_
    refine WL_q rfl (ev_assign rfl) ?_
    refine WL_nil ?_
    refine blockE_n ?_
    refine thenE_n ?_
    refine W_region ?_
    refine WL_q rfl (ev_move rfl) ?_
    refine WL_q rfl (ev_add rfl rfl (by omega)) ?_
    refine WL_q rfl (ev_assign rfl) ?_
    refine WL_nil ?_
    refine thenE_n ?_
    exact ⟨i + 1, (Subs.c rfl Subs.n), (Subs.c (lkI rfl (by omega)) (Subs.c (lkI rfl (by omega)) Subs.n)), ⟨hRL0, ⟨by omega, mix_put (by omega) (by omega) (by omega) hBi⟩⟩, by first | omega | (dsimp only; omega)⟩
  · have hp9 := of_decide_eq_false hg9
    refine W_exit ?_
    refine thenE_x ?_
    refine thenE_x ?_
    refine blockE_hit ?_
    refine thenE_n ?_
    refine W_seq ?_
    refine W_region ?_
    refine WL_q rfl (ev_move rfl) ?_
    refine WL_q rfl (ev_assign rfl) ?_
    refine WL_nil ?_
    refine thenE_n ?_
    refine W_ret ?_
    refine ret1 rfl rfl ?_
    have hi9 : i = n := by omega
    subst hi9; exact ⟨rfl, hBi, hRL0⟩

set_option maxRecDepth 100000 in
theorem markEndS_blk (g : Nat) (T : TypeId) (cs : List Value) (n c : Nat) (k : Int) (w : World) (hB : Blk w g T cs) (hl : n * 2 ≤ cs.length) (hk : 0 ≤ k ∧ k ≤ 1125899906842624) (hn : n ≤ 1048576) :
    Fn Try.prog 59 #[.slice (some ⟨g, 0, none⟩) n c, VI k] w (fun v w' => v = VI (k + 2 * (n : Int)) ∧ Blk w' g T (mix k cs (2 * n)) ∧ KX g w w') := by
  refine Fn_of Try.func59 rfl rfl (by kernel_rfl) rfl ?_
  refine W_seq ?_
  refine W_region ?_
  refine WL_q rfl (ev_assign rfl) ?_
  refine WL_nil ?_
  refine thenE_n ?_
  refine W_seq ?_
  refine W_seq ?_
  refine W_region ?_
  refine WL_q rfl (ev_assign rfl) ?_
  refine WL_nil ?_
  refine thenE_n ?_
  refine W_block ?_
  refine W_loopC (G := Nat) [(0, _)] ((Subs.c rfl Subs.n)) (fun i => [(1, VI (k + 2 * (i : Int))), (5, VI (i : Int))]) (fun i w' => KX (g) w w' ∧ i ≤ n ∧ Blk w' g T (mix k cs (2 * i))) (fun i => n - i) 0 ((Subs.c (lkI rfl (by omega)) (Subs.c (lkI rfl (by omega)) Subs.n))) (⟨KX.refl _ _, ⟨by omega, by rw [Nat.mul_zero, mix_zero]; exact hB⟩⟩) ?_
  rintro i wL0 ⟨hRL0, hi', hBi⟩
  have hzL0 := hRL0.size
  refine W_seq ?_
  refine W_seq ?_
  refine W_region ?_
  refine WL_q rfl (ev_move rfl) ?_
  refine WL_q rfl (ev_move rfl) ?_
  refine WL_q rfl (ev_len Try.underlying56 rfl) ?_
  refine WL_q rfl (ev_lss rfl rfl) ?_
  refine WL_nil ?_
  refine thenE_n ?_
  refine W_cond rfl (fun hg9 => ?_) (fun hg9 => ?_)
  · have hp9 := of_decide_eq_true hg9
    refine W_skip ?_
    refine thenE_n ?_
    refine W_seq ?_
    refine W_block ?_
    refine W_seq ?_
    refine W_region ?_
    refine WL_q rfl (ev_move rfl) ?_
    refine WL_q rfl (ev_move rfl) ?_
    refine WL_q rfl (ev_move rfl) ?_
    refine WL_q rfl (ev_indexAddr Try.underlying56 sz61 rfl rfl rfl (by omega) (by omega)) ?_
    refine WL_q rfl (ev_fieldAddr fo61_0 rfl) ?_
    refine WL_s (ev_store sz3 rfl rfl rfl hBi (by have := mix_len (k := k) (cs := cs) (i := 2 * i) (by omega); omega)) ?_
    rintro _ w4_5 hS4_5
    have hz4_5 := hS4_5.size
    replace hRL0 := hRL0.sto hS4_5 (by omega)
    replace hBi := hS4_5.blk
    replace hBi := mix_put (by omega) (by omega) (by omega) hBi
    refine WL_nil ?_
    refine thenE_n ?_
    refine W_seq ?_
    refine W_region ?_
    refine WL_q rfl (ev_move rfl) ?_
    refine WL_q rfl (ev_add rfl rfl (by omega)) ?_
    refine WL_q rfl (ev_assign rfl) ?_
    refine WL_nil ?_
    refine thenE_n ?_
    refine W_seq ?_
    refine W_region ?_
    refine WL_q rfl (ev_move rfl) ?_
    refine WL_q rfl (ev_move rfl) ?_
    refine WL_q rfl (ev_move rfl) ?_
    refine WL_q rfl (ev_indexAddr Try.underlying56 sz61 rfl rfl rfl (by omega) (by omega)) ?_
    refine WL_q rfl (ev_fieldAddr fo61_1 rfl) ?_
    refine WL_s (ev_store sz3 rfl rfl rfl hBi (by have := mix_len (k := k) (cs := cs) (i := 2 * i + 1) (by omega); omega)) ?_
    rintro _ w6_5 hS6_5
    have hz6_5 := hS6_5.size
    replace hRL0 := hRL0.sto hS6_5 (by omega)
    replace hBi := hS6_5.blk
    refine WL_nil ?_
    refine thenE_n ?_
    refine W_region ?_
    refine WL_q rfl (ev_move rfl) ?_
    refine WL_q rfl (ev_add rfl rfl (by omega)) ?_
    refine WL_q rfl (ev_assign rfl) ?_
    refine WL_nil ?_
    refine blockE_n ?_
    refine thenE_n ?_
    refine W_region ?_
    refine WL_q rfl (ev_move rfl) ?_
    refine WL_q rfl (ev_add rfl rfl (by omega)) ?_
    refine WL_q rfl (ev_assign rfl) ?_
    refine WL_nil ?_
    refine thenE_n ?_
    exact ⟨i + 1, (Subs.c rfl Subs.n), (Subs.c (lkI rfl (by omega)) (Subs.c (lkI rfl (by omega)) Subs.n)), ⟨hRL0, ⟨by omega, mix_put (i := 2 * i + 1) (by omega) (by omega) (by omega) hBi⟩⟩, by first | omega | (dsimp only; omega)⟩
  · have hp9 := of_decide_eq_false hg9
    refine W_exit ?_
    refine thenE_x ?_
    refine thenE_x ?_
    refine blockE_hit ?_
    refine thenE_n ?_
    refine W_seq ?_
    refine W_region ?_
    refine WL_q rfl (ev_move rfl) ?_
    refine WL_q rfl (ev_assign rfl) ?_
    refine WL_nil ?_
    refine thenE_n ?_
    refine W_ret ?_
    refine ret1 rfl rfl ?_
    have hi9 : i = n := by omega
    subst hi9; exact ⟨rfl, hBi, hRL0⟩

set_option maxRecDepth 100000 in
theorem markIntS_nil (a : Option Addr) (c : Nat) (k : Int) (w : World) :
    Fn Try.prog 21 #[.slice a 0 c, VI k] w (fun v w' => v = VI k ∧ Ext w w') := by
  have hE := Ext.refl w
  refine Fn_of Try.func21 rfl rfl (by kernel_rfl) rfl ?_
  refine W_seq ?_
  refine W_region ?_
  refine WL_q rfl (ev_assign rfl) ?_
  refine WL_nil ?_
  refine thenE_n ?_
  refine W_seq ?_
  refine W_seq ?_
  refine W_region ?_
  refine WL_q rfl (ev_assign rfl) ?_
  refine WL_nil ?_
  refine thenE_n ?_
  refine W_block ?_
  refine W_loopC (G := Nat) [(0, _)] ((Subs.c rfl Subs.n)) (fun i => [(1, VI (k + (i : Int))), (5, VI (i : Int))]) (fun i w' => Ext w w' ∧ i = 0) (fun i => 0) 0 ((Subs.c (lkI rfl (by omega)) (Subs.c (lkI rfl (by omega)) Subs.n))) (⟨Ext.refl _, rfl⟩) ?_
  rintro i wL0 ⟨hRL0, hi0⟩
  have hzL0 := hRL0.size
  replace hE := hE.trans hRL0
  refine W_seq ?_
  refine W_seq ?_
  refine W_region ?_
  refine WL_q rfl (ev_move rfl) ?_
  refine WL_q rfl (ev_move rfl) ?_
  refine WL_q rfl (ev_len Try.underlying23 rfl) ?_
  refine WL_q rfl (ev_lss rfl rfl) ?_
  refine WL_nil ?_
  refine thenE_n ?_
  refine W_cond rfl (fun hg9 => ?_) (fun hg9 => ?_)
  · have hp9 := of_decide_eq_true hg9
    omega
  · have hp9 := of_decide_eq_false hg9
    refine W_exit ?_
    refine thenE_x ?_
    refine thenE_x ?_
    refine blockE_hit ?_
    refine thenE_n ?_
    refine W_seq ?_
    refine W_region ?_
    refine WL_q rfl (ev_move rfl) ?_
    refine WL_q rfl (ev_assign rfl) ?_
    refine WL_nil ?_
    refine thenE_n ?_
    refine W_ret ?_
    refine ret1 rfl rfl ?_
    subst hi0; exact ⟨by simp, hE⟩

set_option maxRecDepth 100000 in
theorem markEndS_nil (a : Option Addr) (c : Nat) (k : Int) (w : World) :
    Fn Try.prog 59 #[.slice a 0 c, VI k] w (fun v w' => v = VI k ∧ Ext w w') := by
  have hE := Ext.refl w
  refine Fn_of Try.func59 rfl rfl (by kernel_rfl) rfl ?_
  refine W_seq ?_
  refine W_region ?_
  refine WL_q rfl (ev_assign rfl) ?_
  refine WL_nil ?_
  refine thenE_n ?_
  refine W_seq ?_
  refine W_seq ?_
  refine W_region ?_
  refine WL_q rfl (ev_assign rfl) ?_
  refine WL_nil ?_
  refine thenE_n ?_
  refine W_block ?_
  refine W_loopC (G := Nat) [(0, _)] ((Subs.c rfl Subs.n)) (fun i => [(1, VI (k + (i : Int))), (5, VI (i : Int))]) (fun i w' => Ext w w' ∧ i = 0) (fun i => 0) 0 ((Subs.c (lkI rfl (by omega)) (Subs.c (lkI rfl (by omega)) Subs.n))) (⟨Ext.refl _, rfl⟩) ?_
  rintro i wL0 ⟨hRL0, hi0⟩
  have hzL0 := hRL0.size
  replace hE := hE.trans hRL0
  refine W_seq ?_
  refine W_seq ?_
  refine W_region ?_
  refine WL_q rfl (ev_move rfl) ?_
  refine WL_q rfl (ev_move rfl) ?_
  refine WL_q rfl (ev_len Try.underlying56 rfl) ?_
  refine WL_q rfl (ev_lss rfl rfl) ?_
  refine WL_nil ?_
  refine thenE_n ?_
  refine W_cond rfl (fun hg9 => ?_) (fun hg9 => ?_)
  · have hp9 := of_decide_eq_true hg9
    omega
  · have hp9 := of_decide_eq_false hg9
    refine W_exit ?_
    refine thenE_x ?_
    refine thenE_x ?_
    refine blockE_hit ?_
    refine thenE_n ?_
    refine W_seq ?_
    refine W_region ?_
    refine WL_q rfl (ev_move rfl) ?_
    refine WL_q rfl (ev_assign rfl) ?_
    refine WL_nil ?_
    refine thenE_n ?_
    refine W_ret ?_
    refine ret1 rfl rfl ?_
    subst hi0; exact ⟨by simp, hE⟩

set_option maxRecDepth 100000 in
theorem markIntSS_nil (a : Option Addr) (c : Nat) (k : Int) (w : World) :
    Fn Try.prog 15 #[.slice a 0 c, VI k] w (fun v w' => v = VI k ∧ Ext w w') := by
  have hE := Ext.refl w
  refine Fn_of Try.func15 rfl rfl (by kernel_rfl) rfl ?_
  refine W_seq ?_
  refine W_region ?_
  refine WL_q rfl (ev_assign rfl) ?_
  refine WL_nil ?_
  refine thenE_n ?_
  refine W_seq ?_
  refine W_seq ?_
  refine W_region ?_
  refine WL_q rfl (ev_assign rfl) ?_
  refine WL_nil ?_
  refine thenE_n ?_
  refine W_block ?_
  refine W_loopC (G := Nat) [(0, _)] ((Subs.c rfl Subs.n)) (fun i => [(1, VI (k + (i : Int))), (5, VI (i : Int))]) (fun i w' => Ext w w' ∧ i = 0) (fun i => 0) 0 ((Subs.c (lkI rfl (by omega)) (Subs.c (lkI rfl (by omega)) Subs.n))) (⟨Ext.refl _, rfl⟩) ?_
  rintro i wL0 ⟨hRL0, hi0⟩
  have hzL0 := hRL0.size
  replace hE := hE.trans hRL0
  refine W_seq ?_
  refine W_seq ?_
  refine W_region ?_
  refine WL_q rfl (ev_move rfl) ?_
  refine WL_q rfl (ev_move rfl) ?_
  refine WL_q rfl (ev_len Try.underlying26 rfl) ?_
  refine WL_q rfl (ev_lss rfl rfl) ?_
  refine WL_nil ?_
  refine thenE_n ?_
  refine W_cond rfl (fun hg9 => ?_) (fun hg9 => ?_)
  · have hp9 := of_decide_eq_true hg9
    omega
  · have hp9 := of_decide_eq_false hg9
    refine W_exit ?_
    refine thenE_x ?_
    refine thenE_x ?_
    refine blockE_hit ?_
    refine thenE_n ?_
    refine W_seq ?_
    refine W_region ?_
    refine WL_q rfl (ev_move rfl) ?_
    refine WL_q rfl (ev_assign rfl) ?_
    refine WL_nil ?_
    refine thenE_n ?_
    refine W_ret ?_
    refine ret1 rfl rfl ?_
    subst hi0; exact ⟨by simp, hE⟩

set_option maxRecDepth 100000 in
theorem markEndSS_nil (a : Option Addr) (c : Nat) (k : Int) (w : World) :
    Fn Try.prog 39 #[.slice a 0 c, VI k] w (fun v w' => v = VI k ∧ Ext w w') := by
  have hE := Ext.refl w
  refine Fn_of Try.func39 rfl rfl (by kernel_rfl) rfl ?_
  refine W_seq ?_
  refine W_region ?_
  refine WL_q rfl (ev_assign rfl) ?_
  refine WL_nil ?_
  refine thenE_n ?_
  refine W_seq ?_
  refine W_seq ?_
  refine W_region ?_
  refine WL_q rfl (ev_assign rfl) ?_
  refine WL_nil ?_
  refine thenE_n ?_
  refine W_block ?_
  refine W_loopC (G := Nat) [(0, _)] ((Subs.c rfl Subs.n)) (fun i => [(1, VI (k + (i : Int))), (5, VI (i : Int))]) (fun i w' => Ext w w' ∧ i = 0) (fun i => 0) 0 ((Subs.c (lkI rfl (by omega)) (Subs.c (lkI rfl (by omega)) Subs.n))) (⟨Ext.refl _, rfl⟩) ?_
  rintro i wL0 ⟨hRL0, hi0⟩
  have hzL0 := hRL0.size
  replace hE := hE.trans hRL0
  refine W_seq ?_
  refine W_seq ?_
  refine W_region ?_
  refine WL_q rfl (ev_move rfl) ?_
  refine WL_q rfl (ev_move rfl) ?_
  refine WL_q rfl (ev_len Try.underlying29 rfl) ?_
  refine WL_q rfl (ev_lss rfl rfl) ?_
  refine WL_nil ?_
  refine thenE_n ?_
  refine W_cond rfl (fun hg9 => ?_) (fun hg9 => ?_)
  · have hp9 := of_decide_eq_true hg9
    omega
  · have hp9 := of_decide_eq_false hg9
    refine W_exit ?_
    refine thenE_x ?_
    refine thenE_x ?_
    refine blockE_hit ?_
    refine thenE_n ?_
    refine W_seq ?_
    refine W_region ?_
    refine WL_q rfl (ev_move rfl) ?_
    refine WL_q rfl (ev_assign rfl) ?_
    refine WL_nil ?_
    refine thenE_n ?_
    refine W_ret ?_
    refine ret1 rfl rfl ?_
    subst hi0; exact ⟨by simp, hE⟩

section
variable {lo hi l r : Nat} {w w' : World}
theorem IsMach.mrk {h : MA} {m : Mach} (x : IsMach l r w h m) (k : Mk lo hi w w') (hb : (r ≤ lo ∨ hi ≤ l) ∧ r ≤ w.heap.size) : IsMach l r w' h m := ⟨x.start.mrk k hb, x.send.mrk k hb, x.clauses.mrk k hb, x.output.mrk k hb⟩
theorem IsNet.mrk {h : NA} {m : Net} (x : IsNet l r w h m) (k : Mk lo hi w w') (hb : (r ≤ lo ∨ hi ≤ l) ∧ r ≤ w.heap.size) : IsNet l r w' h m := ⟨x.ends.mrk k hb, x.ids.mrk k hb, x.inputs.mrk k hb⟩
theorem FMach.mrk {h : MA} {m : Mach} (x : FMach l r w h m) (k : Mk lo hi w w') (hb : (r ≤ lo ∨ hi ≤ l) ∧ r ≤ w.heap.size) : FMach l r w' h m := by
  obtain ⟨p, q, s, h1, h2, h3, h4, x1, x2, x3, x4⟩ := x
  exact ⟨p, q, s, h1, h2, h3, h4, x1.mrk k (by omega), x2.mrk k (by omega), x3.mrk k (by omega), x4.mrk k (by omega)⟩
theorem FNet.mrk {h : NA} {m : Net} (x : FNet l r w h m) (k : Mk lo hi w w') (hb : (r ≤ lo ∨ hi ≤ l) ∧ r ≤ w.heap.size) : FNet l r w' h m := by
  obtain ⟨p, q, h1, h2, h3, x1, x2, x3⟩ := x
  exact ⟨p, q, h1, h2, h3, x1.mrk k (by omega), x2.mrk k (by omega), x3.mrk k (by omega)⟩
end
theorem Blk.cellAt {w : World} {b i j : Nat} {T : TypeId} {cs : List Value} {v : Value} (h : Blk w b T cs) (hv : cs[i]? = some v) (hj : j = i) : w.cell? ⟨b, j, none⟩ = some v := by subst hj; exact h.cell hv
theorem Mk.of_kxm {lo hi g m : Nat} {T : TypeId} {w w' : World} {cs : List Value} {k : Int} (h : KX g w w') (hB : Blk w g T cs) (hB' : Blk w' g T (mix k cs m)) (hm : m ≤ cs.length) (h1 : lo ≤ g) (h2 : g < hi) : Mk lo hi w w' := Mk.of_kx h hB hB' (mix_len hm) h1 h2
theorem markIntS_w {lo hi n c : Nat} {a : Option Addr} {k : Int} {w : World} (hW : WRow 1 lo hi w a n) (hk : 0 ≤ k ∧ k ≤ 1125899906842624) (hn : n ≤ 1048576) : Fn Try.prog 21 #[.slice a n c, VI k] w (fun v w' => v = VI (k + (n : Int)) ∧ Mk lo hi w w') := by
  rcases hW with h0 | ⟨g, T, cs, rfl, h1, h2, hB, hl⟩
  · subst h0; exact (markIntS_nil a c k w).mono fun v w' hv => ⟨by rw [hv.1]; simp, Mk.of_ext hv.2⟩
  · exact (markIntS_blk g T cs n c k w hB (by omega) hk hn).mono fun v w' hv => ⟨hv.1, Mk.of_kxm hv.2.2 hB hv.2.1 (by omega) h1 h2⟩
theorem markIntS_own {lo n c : Nat} {E : TypeId} {a : Option Addr} {k : Int} {w : World} {xs : List Int} (hO : Own lo w E 1 a n c (xs.map VI)) (hk : 0 ≤ k ∧ k ≤ 1125899906842624) (hn : n ≤ 1048576) :
    Fn Try.prog 21 #[.slice a n c, VI k] w (fun v w' => v = VI (k + (n : Int)) ∧ Own lo w' E 1 a n c ((nums k n).map VI) ∧ Apd w w' a) := by
  rcases Nat.eq_zero_or_pos n with h0 | h0
  · subst h0
    refine (markIntS_nil a c k w).mono fun v w' hv => ⟨by rw [hv.1]; simp, ?_, hv.2.mono fun q hq => hq.1⟩
    have hl := hO.cap.2
    have e : xs.map VI = [] := List.eq_nil_of_length_eq_zero (by simpa using hl)
    have h1 := hO.ext hv.2
    rw [e] at h1
    simpa [nums] using h1
  · obtain ⟨g, rest, rfl, h1, hB, h2, h3, h4, h5⟩ := hO.blk h0
    refine (markIntS_blk g E _ n c k w hB (by omega) hk hn).mono fun v w' hv => ⟨hv.1, ?_, hv.2.2.mono fun q hq => ⟨hq.1, hq.2 _ rfl⟩⟩
    have e : mix k (xs.map VI ++ rest) n = (nums k n).map VI ++ rest := by
      unfold mix
      rw [List.drop_append_of_le_length (by omega), List.drop_of_length_le (by omega), List.nil_append]
    have hB' := hv.2.1
    rw [e] at hB'
    have hl := congrArg List.length e
    rw [mix_len (by omega)] at hl
    exact Own.of_blk hB' h1 h2 h3 (by omega) (by simp [nums_len])

set_option maxRecDepth 100000 in
theorem heldIntS_spec {lo hi n : Nat} (a : Option Addr) (c : Nat) (xs : List Int) (k : Int) (w : World) (hx : Ints lo hi w a c xs) (hl : xs = nums k n) (hk : 0 ≤ k ∧ k ≤ 1125899906842624) (hn : n ≤ 1048576) :
    Fn Try.prog 41 #[.slice a n c, VI k] w (fun v w' => v = VI (k + (n : Int)) ∧ Ext w w') := by
  subst hl
  have hnl := nums_len k n
  have hE := Ext.refl w
  refine Fn_of Try.func41 rfl rfl (by kernel_rfl) rfl ?_
  refine W_seq ?_
  refine W_region ?_
  refine WL_q rfl (ev_assign rfl) ?_
  refine WL_nil ?_
  refine thenE_n ?_
  refine W_seq ?_
  refine W_seq ?_
  refine W_region ?_
  refine WL_q rfl (ev_assign rfl) ?_
  refine WL_nil ?_
  refine thenE_n ?_
  refine W_block ?_
  refine W_loopC (G := Nat) [(0, _)] ((Subs.c rfl Subs.n)) (fun i => [(1, VI (k + (i : Int))), (5, VI (i : Int))]) (fun i w' => Ext w w' ∧ i ≤ n) (fun i => n - i) 0 ((Subs.c (lkI rfl (by omega)) (Subs.c (lkI rfl (by omega)) Subs.n))) (⟨Ext.refl _, Nat.zero_le _⟩) ?_
  rintro i wL0 ⟨hRL0, hi'⟩
  have hzL0 := hRL0.size
  replace hE := hE.trans hRL0
  replace hx := hx.ext hRL0
  refine W_seq ?_
  refine W_seq ?_
  refine W_region ?_
  refine WL_q rfl (ev_move rfl) ?_
  refine WL_q rfl (ev_move rfl) ?_
  refine WL_q rfl (ev_len Try.underlying23 rfl) ?_
  refine WL_q rfl (ev_lss rfl rfl) ?_
  refine WL_nil ?_
  refine thenE_n ?_
  refine W_cond rfl (fun hg9 => ?_) (fun hg9 => ?_)
  · have hp9 := of_decide_eq_true hg9
    refine W_skip ?_
    refine thenE_n ?_
    refine W_seq ?_
    refine W_block ?_
    refine W_seq ?_
    refine W_seq ?_
    refine W_region ?_
    refine WL_q rfl (ev_move rfl) ?_
    refine WL_q rfl (ev_move rfl) ?_
    have hlt : i < (nums k n).length := by omega
    have hng := nums_get hlt
    refine WL_q rfl (ev_indexAddr Try.underlying23 sz3 rfl rfl (hx.isSome (by omega)) (by omega) (by omega)) ?_
    refine WL_q rfl (ev_load one3 rfl (hx.cell hlt)) ?_
    refine WL_q rfl (ev_move rfl) ?_
    refine WL_q rfl (ev_neq rfl rfl) ?_
    refine WL_nil ?_
    refine thenE_n ?_
    refine W_cond rfl (fun hg17 => ?_) (fun hg17 => ?_)
    · have hp17 := of_decide_eq_true hg17
      refine W_seq ?_
      refine W_region ?_
      refine WL_q rfl (ev_assign rfl) ?_
      refine WL_nil ?_
      refine thenE_n ?_
      refine W_ret ?_
      refine thenE_r ?_
      refine blockE_r ?_
      refine thenE_r ?_
      refine thenE_r ?_
      refine blockE_r ?_
      refine thenE_r ?_
      refine ret1 rfl rfl ?_
      first | (exact absurd hng hp17) | (exact ⟨vi (by omega), hE⟩)
    · have hp17 := of_decide_eq_false hg17
      refine W_skip ?_
      refine thenE_n ?_
      refine W_region ?_
      refine WL_q rfl (ev_move rfl) ?_
      refine WL_q rfl (ev_add rfl rfl (by omega)) ?_
      refine WL_q rfl (ev_assign rfl) ?_
      refine WL_nil ?_
      refine blockE_n ?_
      refine thenE_n ?_
      refine W_region ?_
      refine WL_q rfl (ev_move rfl) ?_
      refine WL_q rfl (ev_add rfl rfl (by omega)) ?_
      refine WL_q rfl (ev_assign rfl) ?_
      refine WL_nil ?_
      refine thenE_n ?_
      exact ⟨i + 1, (Subs.c rfl Subs.n), (Subs.c (lkI rfl (by omega)) (Subs.c (lkI rfl (by omega)) Subs.n)), ⟨hRL0, by omega⟩, by first | omega | (dsimp only; omega)⟩
  · have hp9 := of_decide_eq_false hg9
    refine W_exit ?_
    refine thenE_x ?_
    refine thenE_x ?_
    refine blockE_hit ?_
    refine thenE_n ?_
    refine W_seq ?_
    refine W_region ?_
    refine WL_q rfl (ev_move rfl) ?_
    refine WL_q rfl (ev_assign rfl) ?_
    refine WL_nil ?_
    refine thenE_n ?_
    refine W_ret ?_
    refine ret1 rfl rfl ?_
    first | (exact absurd hng hp17) | (exact ⟨vi (by omega), hE⟩)

theorem markEndS_w {lo hi n c : Nat} {a : Option Addr} {k : Int} {w : World} (hW : WRow 2 lo hi w a n) (hk : 0 ≤ k ∧ k ≤ 1125899906842624) (hn : n ≤ 1048576) : Fn Try.prog 59 #[.slice a n c, VI k] w (fun v w' => v = VI (k + 2 * (n : Int)) ∧ Mk lo hi w w') := by
  rcases hW with h0 | ⟨g, T, cs, rfl, h1, h2, hB, hl⟩
  · subst h0; exact (markEndS_nil a c k w).mono fun v w' hv => ⟨by rw [hv.1]; simp, Mk.of_ext hv.2⟩
  · exact (markEndS_blk g T cs n c k w hB (by omega) hk hn).mono fun v w' hv => ⟨hv.1, Mk.of_kxm hv.2.2 hB hv.2.1 (by omega) h1 h2⟩

set_option maxRecDepth 100000 in
theorem markIntSS_blk {hi : Nat} (g : Nat) (T : TypeId) (cs : List Value) (n c : Nat) (k : Int) (w : World) (hB : Blk w g T cs) (hl : n ≤ cs.length) (hR : WRs 1 1 0 (g + 1) hi w cs n) (hk : 0 ≤ k ∧ k ≤ 562949953421312) (hn : n ≤ 1048576) :
    Fn Try.prog 15 #[.slice (some ⟨g, 0, none⟩) n c, VI k] w (fun v w' => ∃ r, v = VI r ∧ (k ≤ r ∧ r ≤ k + 2097152 * (n : Int)) ∧ Mk (g + 1) hi w w') := by
  refine Fn_of Try.func15 rfl rfl (by kernel_rfl) rfl ?_
  refine W_seq ?_
  refine W_region ?_
  refine WL_q rfl (ev_assign rfl) ?_
  refine WL_nil ?_
  refine thenE_n ?_
  refine W_seq ?_
  refine W_seq ?_
  refine W_region ?_
  refine WL_q rfl (ev_assign rfl) ?_
  refine WL_nil ?_
  refine thenE_n ?_
  refine W_block ?_
  refine W_loopC (G := Nat × Int) [(0, _)] ((Subs.c rfl Subs.n)) (fun ⟨i, r⟩ => [(1, VI r), (5, VI (i : Int))]) (fun ⟨i, r⟩ w' => Mk (g + 1) hi w w' ∧ i ≤ n ∧ k ≤ r ∧ r ≤ k + 2097152 * (i : Int)) (fun p => n - p.1) (0, k) ((Subs.c (lkI rfl (by omega)) (Subs.c (lkI rfl (by omega)) Subs.n))) (⟨Mk.refl _ _ _, ⟨by simp, by simp, by simp⟩⟩) ?_
  rintro ⟨i, r⟩ wL0 ⟨hRL0, hi', hr1, hr2⟩
  have hzL0 := hRL0.size
  replace hB := hB.mrk hRL0 (by omega)
  replace hR := hR.mrk hRL0 (by omega)
  refine W_seq ?_
  refine W_seq ?_
  refine W_region ?_
  refine WL_q rfl (ev_move rfl) ?_
  refine WL_q rfl (ev_move rfl) ?_
  refine WL_q rfl (ev_len Try.underlying26 rfl) ?_
  refine WL_q rfl (ev_lss rfl rfl) ?_
  refine WL_nil ?_
  refine thenE_n ?_
  refine W_cond rfl (fun hg9 => ?_) (fun hg9 => ?_)
  · have hp9 := of_decide_eq_true hg9
    refine W_skip ?_
    refine thenE_n ?_
    refine W_seq ?_
    refine W_block ?_
    refine W_region ?_
    refine WL_q rfl (ev_move rfl) ?_
    refine WL_q rfl (ev_move rfl) ?_
    obtain ⟨a2, n2, c2, hc2, hn2, hw2⟩ := hR i (by omega)
    refine WL_q rfl (ev_indexAddr Try.underlying26 sz23 rfl rfl rfl (by omega) (by omega)) ?_
    refine WL_q rfl (ev_load one23 rfl (hB.cellAt hc2 (by simp))) ?_
    refine WL_q rfl (ev_move rfl) ?_
    refine WL_m rfl (ev_call rfl (markIntS_w hw2 (by omega) (by omega))) ?_
    rintro _ w17 ⟨rfl, hK17⟩
    have hz17 := hK17.size
    replace hRL0 := hRL0.mrk hK17 (by omega)
    replace hB := hB.mrk hK17 (by omega)
    replace hR := hR.mrk hK17 (by omega)
    refine WL_q rfl (ev_assign rfl) ?_
    refine WL_nil ?_
    refine blockE_n ?_
    refine thenE_n ?_
    refine W_region ?_
    refine WL_q rfl (ev_move rfl) ?_
    refine WL_q rfl (ev_add rfl rfl (by omega)) ?_
    refine WL_q rfl (ev_assign rfl) ?_
    refine WL_nil ?_
    refine thenE_n ?_
    exact ⟨(i + 1, r + (n2 : Int)), (Subs.c rfl Subs.n), (Subs.c (lkI rfl (by omega)) (Subs.c (lkI rfl (by omega)) Subs.n)), ⟨hRL0, ⟨by omega, by omega, by omega⟩⟩, by first | omega | (dsimp only; omega)⟩
  · have hp9 := of_decide_eq_false hg9
    refine W_exit ?_
    refine thenE_x ?_
    refine thenE_x ?_
    refine blockE_hit ?_
    refine thenE_n ?_
    refine W_seq ?_
    refine W_region ?_
    refine WL_q rfl (ev_move rfl) ?_
    refine WL_q rfl (ev_assign rfl) ?_
    refine WL_nil ?_
    refine thenE_n ?_
    refine W_ret ?_
    refine ret1 rfl rfl ?_
    have hi9 : i = n := by omega
    subst hi9; exact ⟨_, rfl, ⟨hr1, hr2⟩, hRL0⟩

theorem markIntSS_w {lo hi n c : Nat} {a : Option Addr} {k : Int} {w : World} (hW : WNest 1 1 0 lo hi w a n) (hk : 0 ≤ k ∧ k ≤ 562949953421312) (hn : n ≤ 1048576) : Fn Try.prog 15 #[.slice a n c, VI k] w (fun v w' => ∃ r, v = VI r ∧ (k ≤ r ∧ r ≤ k + 2097152 * (n : Int)) ∧ Mk lo hi w w') := by
  rcases hW with h0 | ⟨g, T, cs, rfl, h1, h2, hB, hl, hR⟩
  · subst h0; exact (markIntSS_nil a c k w).mono fun v w' hv => ⟨k, hv.1, by omega, Mk.of_ext hv.2⟩
  · exact (markIntSS_blk g T cs n c k w hB (by omega) hR hk hn).mono fun v w' ⟨r, h3, h4, h5⟩ => ⟨r, h3, h4, h5.mono (by omega) (Nat.le_refl _)⟩

set_option maxRecDepth 100000 in
theorem markEndSS_blk {hi : Nat} (g : Nat) (T : TypeId) (cs : List Value) (n c : Nat) (k : Int) (w : World) (hB : Blk w g T cs) (hl : n ≤ cs.length) (hR : WRs 2 1 0 (g + 1) hi w cs n) (hk : 0 ≤ k ∧ k ≤ 562949953421312) (hn : n ≤ 1048576) :
    Fn Try.prog 39 #[.slice (some ⟨g, 0, none⟩) n c, VI k] w (fun v w' => ∃ r, v = VI r ∧ (k ≤ r ∧ r ≤ k + 2097152 * (n : Int)) ∧ Mk (g + 1) hi w w') := by
  refine Fn_of Try.func39 rfl rfl (by kernel_rfl) rfl ?_
  refine W_seq ?_
  refine W_region ?_
  refine WL_q rfl (ev_assign rfl) ?_
  refine WL_nil ?_
  refine thenE_n ?_
  refine W_seq ?_
  refine W_seq ?_
  refine W_region ?_
  refine WL_q rfl (ev_assign rfl) ?_
  refine WL_nil ?_
  refine thenE_n ?_
  refine W_block ?_
  refine W_loopC (G := Nat × Int) [(0, _)] ((Subs.c rfl Subs.n)) (fun ⟨i, r⟩ => [(1, VI r), (5, VI (i : Int))]) (fun ⟨i, r⟩ w' => Mk (g + 1) hi w w' ∧ i ≤ n ∧ k ≤ r ∧ r ≤ k + 2097152 * (i : Int)) (fun p => n - p.1) (0, k) ((Subs.c (lkI rfl (by omega)) (Subs.c (lkI rfl (by omega)) Subs.n))) (⟨Mk.refl _ _ _, ⟨by simp, by simp, by simp⟩⟩) ?_
  rintro ⟨i, r⟩ wL0 ⟨hRL0, hi', hr1, hr2⟩
  have hzL0 := hRL0.size
  replace hB := hB.mrk hRL0 (by omega)
  replace hR := hR.mrk hRL0 (by omega)
  refine W_seq ?_
  refine W_seq ?_
  refine W_region ?_
  refine WL_q rfl (ev_move rfl) ?_
  refine WL_q rfl (ev_move rfl) ?_
  refine WL_q rfl (ev_len Try.underlying29 rfl) ?_
  refine WL_q rfl (ev_lss rfl rfl) ?_
  refine WL_nil ?_
  refine thenE_n ?_
  refine W_cond rfl (fun hg9 => ?_) (fun hg9 => ?_)
  · have hp9 := of_decide_eq_true hg9
    refine W_skip ?_
    refine thenE_n ?_
    refine W_seq ?_
    refine W_block ?_
    refine W_region ?_
    refine WL_q rfl (ev_move rfl) ?_
    refine WL_q rfl (ev_move rfl) ?_
    obtain ⟨a2, n2, c2, hc2, hn2, hw2⟩ := hR i (by omega)
    refine WL_q rfl (ev_indexAddr Try.underlying29 sz56 rfl rfl rfl (by omega) (by omega)) ?_
    refine WL_q rfl (ev_load one56 rfl (hB.cellAt hc2 (by simp))) ?_
    refine WL_q rfl (ev_move rfl) ?_
    refine WL_m rfl (ev_call rfl (markEndS_w hw2 (by omega) (by omega))) ?_
    rintro _ w17 ⟨rfl, hK17⟩
    have hz17 := hK17.size
    replace hRL0 := hRL0.mrk hK17 (by omega)
    replace hB := hB.mrk hK17 (by omega)
    replace hR := hR.mrk hK17 (by omega)
    refine WL_q rfl (ev_assign rfl) ?_
    refine WL_nil ?_
    refine blockE_n ?_
    refine thenE_n ?_
    refine W_region ?_
    refine WL_q rfl (ev_move rfl) ?_
    refine WL_q rfl (ev_add rfl rfl (by omega)) ?_
    refine WL_q rfl (ev_assign rfl) ?_
    refine WL_nil ?_
    refine thenE_n ?_
    exact ⟨(i + 1, r + 2 * (n2 : Int)), (Subs.c rfl Subs.n), (Subs.c (lkI rfl (by omega)) (Subs.c (lkI rfl (by omega)) Subs.n)), ⟨hRL0, ⟨by omega, by omega, by omega⟩⟩, by first | omega | (dsimp only; omega)⟩
  · have hp9 := of_decide_eq_false hg9
    refine W_exit ?_
    refine thenE_x ?_
    refine thenE_x ?_
    refine blockE_hit ?_
    refine thenE_n ?_
    refine W_seq ?_
    refine W_region ?_
    refine WL_q rfl (ev_move rfl) ?_
    refine WL_q rfl (ev_assign rfl) ?_
    refine WL_nil ?_
    refine thenE_n ?_
    refine W_ret ?_
    refine ret1 rfl rfl ?_
    have hi9 : i = n := by omega
    subst hi9; exact ⟨_, rfl, ⟨hr1, hr2⟩, hRL0⟩

theorem markEndSS_w {lo hi n c : Nat} {a : Option Addr} {k : Int} {w : World} (hW : WNest 2 1 0 lo hi w a n) (hk : 0 ≤ k ∧ k ≤ 562949953421312) (hn : n ≤ 1048576) : Fn Try.prog 39 #[.slice a n c, VI k] w (fun v w' => ∃ r, v = VI r ∧ (k ≤ r ∧ r ≤ k + 2097152 * (n : Int)) ∧ Mk lo hi w w') := by
  rcases hW with h0 | ⟨g, T, cs, rfl, h1, h2, hB, hl, hR⟩
  · subst h0; exact (markEndSS_nil a c k w).mono fun v w' hv => ⟨k, hv.1, by omega, Mk.of_ext hv.2⟩
  · exact (markEndSS_blk g T cs n c k w hB (by omega) hR hk hn).mono fun v w' ⟨r, h3, h4, h5⟩ => ⟨r, h3, h4, h5.mono (by omega) (Nat.le_refl _)⟩

theorem mod3 {n i k : Nat} (h : k = 0 ∨ k = 2) : ∀ j, j < n → (0 + i * 3 + k) ≠ j * 3 + 1 := by intro j _; omega

theorem FIntss.w {lo hi c : Nat} {w : World} {a : Option Addr} {xss : List (List Int)} (h : FIntss lo hi w a c xss) (hm : totL xss ≤ 1048576) : WNest 1 1 0 lo hi w a xss.length := FNest.w h (fun _ _ => rfl) (fun _ _ => rfl) (fun h => FInts.w h) fun x hx => by
  obtain ⟨i, hi, rfl⟩ := List.mem_iff_getElem.1 hx; have := totL_le hi; simp only [id]; omega
theorem FPairss.w {lo hi c : Nat} {w : World} {a : Option Addr} {xss : List (List (Int × Int))} (h : FPairss lo hi w a c xss) (hm : totL xss ≤ 1048576) : WNest 2 1 0 lo hi w a xss.length := FNest.w h (fun _ _ => rfl) (fun _ _ => rfl) (fun h => FPairs.w h) fun x hx => by
  obtain ⟨i, hi, rfl⟩ := List.mem_iff_getElem.1 hx; have := totL_le hi; simp only [id]; omega
theorem FClauses.w {lo hi c : Nat} {w : World} {a : Option Addr} {xs : List Cl} (h : FClauses lo hi w a c xs) (hm : totC xs ≤ 1048576) : WNest 1 3 1 lo hi w a xs.length := FNest.w h (fun _ _ => rfl) (fun _ _ => rfl) (fun h => FInts.w h) fun x hx => by
  obtain ⟨i, hi, rfl⟩ := List.mem_iff_getElem.1 hx; have := totC_le hi; omega

set_option maxRecDepth 100000 in
theorem markNetwork_spec {lo hi : Nat} (h : NA) (m : Net) (k : Int) (w : World) (hF : FNet lo hi w h m) (hn : totN m ≤ 1048576) (hhi : hi ≤ w.heap.size) (hk : 0 ≤ k ∧ k ≤ 281474976710656) :
    Fn Try.prog 14 #[netV h m, VI k] w (fun v w' => ∃ r, v = VI r ∧ (0 ≤ r ∧ r ≤ k + 8796093022208) ∧ Mk lo hi w w') := by
  have hM := Mk.refl lo hi w
  unfold totN at hn
  have hq1 := totL_len m.ends
  obtain ⟨p, q, l1, l2, l3, x1, x2, x3⟩ := hF
  refine Fn_of Try.func14 rfl rfl (by kernel_rfl) rfl ?_
  refine W_seq ?_
  refine W_region ?_
  refine WL_m rfl (ev_box rfl) ?_
  rintro _ w2 ⟨rfl, hN2⟩
  have hz2 := hN2.size
  replace hM := hM.trans hN2.ext
  replace x1 := x1.ext hN2.ext
  replace x2 := x2.ext hN2.ext
  replace x3 := x3.ext hN2.ext
  have hB2 : Blk w2 _ _ [_, _, _] := hN2.blk
  refine WL_q rfl (ev_assign rfl) ?_
  refine WL_nil ?_
  refine thenE_n ?_
  refine W_seq ?_
  refine W_region ?_
  refine WL_q rfl (ev_fieldAddr fo31_0 rfl) ?_
  refine WL_q rfl (ev_load one29 rfl (hB2.cell rfl)) ?_
  refine WL_q rfl (ev_move rfl) ?_
  refine WL_m rfl (ev_call rfl (markEndSS_w (FPairss.w x1 (by omega)) (by omega) (by omega))) ?_
  rintro _ w8 ⟨r8, rfl, hr8, hK8⟩
  have hz8 := hK8.size
  replace hM := hM.mrk hK8 (by omega)
  replace x2 := x2.mrk hK8 (by omega)
  replace x3 := x3.mrk hK8 (by omega)
  replace hB2 := hB2.mrk hK8 (by omega)
  refine WL_q rfl (ev_assign rfl) ?_
  refine WL_nil ?_
  refine thenE_n ?_
  refine W_seq ?_
  refine W_region ?_
  refine WL_q rfl (ev_fieldAddr fo31_1 rfl) ?_
  refine WL_q rfl (ev_load one23 rfl (hB2.cell rfl)) ?_
  refine WL_q rfl (ev_move rfl) ?_
  refine WL_m rfl (ev_call rfl (markIntS_w (FInts.w x2) (by omega) (by omega))) ?_
  rintro _ w12 ⟨rfl, hK12⟩
  have hz12 := hK12.size
  replace hM := hM.mrk hK12 (by omega)
  replace x3 := x3.mrk hK12 (by omega)
  replace hB2 := hB2.mrk hK12 (by omega)
  refine WL_q rfl (ev_assign rfl) ?_
  refine WL_nil ?_
  refine thenE_n ?_
  refine W_seq ?_
  refine W_region ?_
  refine WL_q rfl (ev_fieldAddr fo31_2 rfl) ?_
  refine WL_q rfl (ev_load one23 rfl (hB2.cell rfl)) ?_
  refine WL_q rfl (ev_move rfl) ?_
  refine WL_m rfl (ev_call rfl (markIntS_w (FInts.w x3) (by omega) (by omega))) ?_
  rintro _ w16 ⟨rfl, hK16⟩
  have hz16 := hK16.size
  replace hM := hM.mrk hK16 (by omega)
  replace hB2 := hB2.mrk hK16 (by omega)
  refine WL_q rfl (ev_assign rfl) ?_
  refine WL_nil ?_
  refine thenE_n ?_
  refine W_seq ?_
  refine W_region ?_
  refine WL_q rfl (ev_move rfl) ?_
  refine WL_q rfl (ev_assign rfl) ?_
  refine WL_nil ?_
  refine thenE_n ?_
  refine W_ret ?_
  refine ret1 rfl rfl ?_
  exact ⟨_, rfl, by omega, hM⟩

end Go.Proofs.Ytladejfcplpnaaa
