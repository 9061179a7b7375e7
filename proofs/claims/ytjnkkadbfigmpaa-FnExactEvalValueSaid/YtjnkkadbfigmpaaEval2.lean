/- Contracts of the evaluation of a value program and of EvalValue, of the program and of the reference; the walk of FnExactEvalValue. -/
import Derived.Test.YtjnkkadbfigmpaaEval
import Derived.Test.YtjnkkadbfigmpaaStd
import Derived.Test.YtjnkkadbfigmpaaAuto
import Derived.Test.YtjnkkadbfigmpaaDraw
namespace Go.Proofs.Ytjnkkadbfigmpaa
open Go Go.RowKit

theorem vOk_pos {l : List (Int × Int)} {i n : Nat} (hv : vOk l = true) (hi : l.length ≤ i) (e : vRun 0 (l.take i) = some (n : Int)) : 0 < n := by
  rw [List.take_of_length_le hi] at e
  unfold vOk at hv
  rw [e] at hv
  simp at hv
  omega
theorem needs_cases {k : Int} (h : 1 ≤ k ∧ k ≤ 19) : (k ≤ 10 ∧ needs k = 0) ∨ ((k = 11 ∨ k = 12) ∧ needs k = 1) ∨ ((13 ≤ k ∧ k ≤ 18) ∧ needs k = 2) ∨ (k = 19 ∧ needs k = 3) := by
  unfold needs; repeat' split
  all_goals omega
theorem cnt_eq (l : List Int) (t : Int) : (l.countP fun y => decide (t ≤ y) && decide (y < t + 1)) = l.countP fun y => decide (y = t) := by
  congr 1; funext y; rw [Bool.eq_iff_iff]; simp; omega
theorem cnt_lt {l : List Int} (hr : ∀ y ∈ l, -1000000 ≤ y ∧ y ≤ 1000000) (t : Int) : (l.countP fun y => decide (-1000000 ≤ y) && decide (y < t)) = l.countP fun y => decide (y < t) := by
  apply List.countP_congr
  intro y hy
  have := hr y hy
  simp; omega
theorem ResR.count' {x : Nd} {v : Int} {ts : List Int} {k : Int} (h : k = 11) (h0 : 0 < ts.length) : ResR x v ts k ((x.near.countP fun y => decide (ts[0] ≤ y) && decide (y < ts[0] + 1)) : Nat) := .count h (by rw [cnt_eq, tA_get h0])
theorem ResR.below' {x : Nd} {v : Int} {ts : List Int} {k : Int} (h : k = 12) (h0 : 0 < ts.length) (hr : ∀ y ∈ x.near, -1000000 ≤ y ∧ y ≤ 1000000) : ResR x v ts k ((x.near.countP fun y => decide (-1000000 ≤ y) && decide (y < ts[0])) : Nat) := .below h (by rw [cnt_lt hr, tA_get h0])
theorem resR_two {x : Nd} {v : Int} {ts : List Int} {k : Int} (h : 13 ≤ k ∧ k ≤ 18) (h0 : 0 < ts.length) (h1 : 1 < ts.length) : ResR x v ts k (two k ts[0] ts[1]) := .two h (by rw [tA_get h0, tA_get h1])
theorem ResR.ifT {x : Nd} {v : Int} {ts : List Int} {k : Int} (h : k = 19) (h0 : 0 < ts.length) (h1 : 1 < ts.length) (ht : ts[0] > 0) : ResR x v ts k ts[1] := .condT h ht (tA_get h0) (tA_get h1)
theorem ResR.ifF {x : Nd} {v : Int} {ts : List Int} {k : Int} (h : k = 19) (h0 : 0 < ts.length) (h1 : 2 < ts.length) (ht : ¬ ts[0] > 0) : ResR x v ts k ts[2] := .condF h ht (tA_get h0) (tA_get h1)
theorem range_step {s : List Int} {k : Nat} {r : Int} (h : ∀ y ∈ s, -1000000 ≤ y ∧ y ≤ 1000000) : ∀ y ∈ s.take k ++ [clip r], -1000000 ≤ y ∧ y ≤ 1000000 := fun y hy => by
  rcases List.mem_append.1 hy with h1 | h1
  · exact h y (List.mem_of_mem_take h1)
  · rw [List.mem_singleton.1 h1]; exact clip_bd _
theorem ownt_cut {lo hi p q : Nat} {w : World} {E : TypeId} {a : Option Addr} {n c m k : Nat} {xs : List Int} (h : OwnH lo hi p q w E 1 a n c (xs.map VI)) (hm : m = k) (hk : k ≤ n) : OwnH lo hi p q w E 1 a m c ((xs.take k).map VI) := by
  subst hm
  have h1 := h.1.take m hk
  rw [Nat.mul_one, ← List.map_take] at h1
  exact ⟨h1, h.2⟩
/-- The stack behind an operation. -/
def stk (s : List Int) (k r : Int) : List Int := s.take (s.length - (needs k).toNat) ++ [clip r]
theorem stk_len {s : List Int} {k r : Int} (h : needs k ≤ s.length) (h0 : 0 ≤ needs k) : ((stk s k r).length : Int) = s.length + (1 - needs k) := by unfold stk; simp; omega
/-- The input is in order. -/
def EvOk (x : Nd) (l : List (Int × Int)) : Prop := vOk l = true ∧ inR x.own (-1000000) 1000000 = true ∧ inR x.id 0 999999 = true ∧ inR x.input 0 9 = true ∧ inR x.round 1 2000 = true ∧ (x.near.length : Int) ≤ 6 ∧ allR x.near (-1000000) 1000000 = true
inductive EvalR (x : Nd) (l : List (Int × Int)) : Int → Bool → Prop
  | yes {s : List Int} (h : EvOk x l) (hs : RunN x l l.length s) : EvalR x l (s.headD 0) true
  | no (h : ¬ EvOk x l) : EvalR x l 0 false
theorem EvalR.det1 {x : Nd} {l : List (Int × Int)} {r s : Int} {b c : Bool} (h : EvalR x l r b) (q : EvalR x l s c) : r = s := by
  cases h with
  | yes h hs => cases q with
    | yes q qs => rw [hs.det qs]
    | no q => exact absurd h q
  | no h => cases q with
    | yes q qs => exact absurd q h
    | no q => rfl
theorem EvalR.det2 {x : Nd} {l : List (Int × Int)} {r s : Int} {b c : Bool} (h : EvalR x l r b) (q : EvalR x l s c) : b = c := by
  cases h with
  | yes h hs => cases q with
    | yes q qs => rfl
    | no q => exact absurd h q
  | no h => cases q with
    | yes q qs => exact absurd q h
    | no q => rfl
theorem vOk_len {l : List (Int × Int)} (h : vOk l = true) : inR l.length 1 40 = true := by rw [vOk, Bool.and_eq_true] at h; exact h.1
theorem ev_build5 {P : Program} {L : Env} {ty T : TypeId} {w : World} {x y z q r : Operand} {v u v3 v4 v5 : Value} (hn : structN P T 5 = true) (hx : ev L x = some v) (hy : ev L y = some u) (hz : ev L z = some v3) (hq : ev L q = some v4) (hr : ev L r = some v5) (h1 : v.cells = #[v]) (h2 : u.cells = #[u]) (h3 : v3.cells = #[v3]) (h4 : v4.cells = #[v4]) (h5 : v5.cells = #[v5]) : EvR P L (.build T #[(0, x), (1, y), (2, z), (3, q), (4, r)]) ty w (.agg #[v, u, v3, v4, v5]) :=
  ev_build (xs := [x, y, z, q, r]) (l := [v, u, v3, v4, v5]) hn (by simp [evs, hx, hy, hz, hq, hr]) (by intro a ha; simp at ha; rcases ha with rfl | rfl | rfl | rfl | rfl <;> assumption)
theorem vaNeeds_n (k : Int) (w : World) (h : inR k 1 19 = true) : Fn Try.prog 103 #[VI k] w (fun v w' => v = VI (needs k) ∧ Ext w w') := by rw [← vaNeeds_eq h]; exact (vaNeeds_spec k w).mono fun v w' h => ⟨h.1, h.2 ▸ Ext.refl w⟩
theorem allR_one {y lo hi : Int} : allR [y] lo hi = inR y lo hi := by simp [allR]
theorem head_get {s : List Int} (h : 0 < s.length) : s[0] = s.headD 0 := by cases s with | nil => simp at h | cons y r => rfl

set_option maxHeartbeats 2000000 in
set_option maxRecDepth 100000 in
theorem eval_spec {lo hi l1 h1 : Nat} (a0 a1 : Option Addr) (c0 c1 : Nat) (x : Nd) (l : List (Int × Int)) (w : World) (hx : Ints lo hi w a0 c0 x.near) (hl : Pairs l1 h1 w a1 c1 l) (hhi : hi ≤ w.heap.size) (hhi1 : h1 ≤ w.heap.size) (hm : x.near.length ≤ 6) (hr : ∀ y ∈ x.near, -1000000 ≤ y ∧ y ≤ 1000000) (hv : vOk l = true) :
    Fn Try.prog 80 #[ndV a0 c0 x, .slice a1 l.length c1] w (fun u w' => ∃ s, u = VI (s.headD 0) ∧ RunN x l l.length s ∧ Ext w w') := by
  have hll := inR_true.1 (vOk_len hv)
  have hE := Ext.refl w
  refine Fn_of Try.func80 rfl rfl (by kernel_rfl) rfl ?_
  refine W_seq ?_
  refine W_region ?_
  refine WL_m rfl (ev_box rfl) ?_
  rintro _ w2 ⟨rfl, hN2⟩
  have hz2 := hN2.size
  replace hE := hE.trans hN2.ext
  replace hx := hx.ext hN2.ext
  replace hl := hl.ext hN2.ext
  have hB2 : Blk w2 _ _ [_, _, _, _, _] := hN2.blk
  refine WL_q rfl (ev_assign rfl) ?_
  refine WL_nil ?_
  refine thenE_n ?_
  refine W_seq ?_
  refine W_region ?_
  refine WL_q rfl (ev_assign rfl) ?_
  refine WL_nil ?_
  refine thenE_n ?_
  refine W_seq ?_
  refine W_seq ?_
  refine W_region ?_
  refine WL_q rfl (ev_move rfl) ?_
  refine WL_q rfl (ev_len Try.underlying60 rfl) ?_
  refine WL_q rfl (ev_move rfl) ?_
  refine WL_nil ?_
  refine thenE_n ?_
  refine W_block ?_
  refine W_loopC (G := Nat × Option Addr × Nat × List Int) [(2, _), (10, _), (11, _)] ((Subs.c rfl (Subs.c rfl (Subs.c rfl Subs.n)))) (fun ⟨i, a, c, s⟩ => [(5, .slice a s.length c), (12, VI (i : Int))]) (fun ⟨i, a, c, s⟩ w' => Lo (w2.heap.size) w2 w' ∧ i ≤ l.length ∧ OwnH w2.heap.size w'.heap.size 0 0 w' 3 1 a s.length c (s.map VI) ∧ RunN x l i s ∧ vRun 0 (l.take i) = some (s.length : Int) ∧ ∀ y ∈ s, -1000000 ≤ y ∧ y ≤ 1000000) (fun g => l.length - g.1) (0, none, 0, []) ((Subs.c rfl (Subs.c (lkI rfl (by omega)) Subs.n))) (⟨Lo.refl (by omega), ⟨by simp, OwnH.nil, .zero, by simp [vRun], by simp⟩⟩) ?_
  rintro ⟨i, a, c, s⟩ wL0 ⟨hRL0, hi', hO, hRun, hV, hsr⟩
  have hzL0 := hRL0.size
  replace hx := hx.lo hRL0 (by omega)
  replace hl := hl.lo hRL0 (by omega)
  replace hB2 := hB2.lo hRL0 (by omega)
  replace hE := hE.lo hRL0 (by omega)
  refine W_seq ?_
  refine W_region ?_
  refine WL_q rfl (ev_lss rfl rfl) ?_
  refine WL_nil ?_
  refine thenE_n ?_
  refine W_seq ?_
  refine W_cond rfl (fun hg13 => ?_) (fun hg13 => ?_)
  · have hp13 := of_decide_eq_true hg13
    refine W_skip ?_
    refine thenE_n ?_
    refine W_seq ?_
    refine W_block ?_
    refine W_seq ?_
    refine W_region ?_
    have hlt : i < l.length := by omega
    obtain ⟨hk1, hk2, hk3⟩ := vRun_at hv hlt hV
    have hkk := inR_true.1 hk1
    have hnb := needs_bd l[i].1
    have hcap := hO.1.cap.1
    have hbd := vRun_bd _ _ _ hV (by omega)
    have htl := List.length_take_le i l
    refine WL_q rfl (ev_indexAddr Try.underlying60 sz92 rfl rfl (hl.isSome (by omega)) (by omega) (by omega)) ?_
    refine WL_q rfl (ev_loads st92 sz92 rfl (hl.cells (i := i) (by omega)) rfl) ?_
    refine WL_m rfl (ev_alloc zr92) ?_
    rintro _ w7 ⟨rfl, hN7⟩
    have hz7 := hN7.size
    replace hE := hE.trans hN7.ext
    replace hRL0 := hRL0.trans hN7.ext
    replace hx := hx.ext hN7.ext
    replace hl := hl.ext hN7.ext
    replace hB2 := hB2.ext hN7.ext
    replace hO := hO.ext hN7.ext
    have hB7 : Blk w7 _ _ [_, _] := hN7.blk
    refine WL_s (ev_stores sz92 rfl rfl rfl (by simp [Value.oneCell']) hB7 (by simp)) ?_
    rintro _ w4_3 hS4_3
    have hz4_3 := hS4_3.size
    replace hE := hE.sto hS4_3 (by omega)
    replace hRL0 := hRL0.sto hS4_3 (by omega)
    replace hx := hx.sto hS4_3 (by omega)
    replace hl := hl.sto hS4_3 (by omega)
    replace hB2 := hB2.sto hS4_3 (by omega)
    replace hO := hO.sto hS4_3 (by omega)
    replace hB7 : Blk w4_3 _ _ [_, _] := hS4_3.blk
    refine WL_nil ?_
    refine thenE_n ?_
    refine W_seq ?_
    refine W_region ?_
    refine WL_q rfl (ev_move rfl) ?_
    refine WL_q rfl (ev_len Try.underlying23 rfl) ?_
    refine WL_q rfl (ev_loads st92 sz92 rfl (cellsB hB7) rfl) ?_
    refine WL_m rfl (ev_call rfl (needs_spec _ _ _)) ?_
    rintro _ w19 ⟨rfl, hE19⟩
    have hz19 := hE19.size
    replace hE := hE.trans hE19
    replace hRL0 := hRL0.trans hE19
    replace hx := hx.ext hE19
    replace hl := hl.ext hE19
    replace hB2 := hB2.ext hE19
    replace hO := hO.ext hE19
    replace hB7 := hB7.ext hE19
    refine WL_q rfl (ev_sub rfl rfl (by omega)) ?_
    refine WL_q rfl (ev_assign rfl) ?_
    refine WL_nil ?_
    refine thenE_n ?_
    refine W_seq ?_
    refine W_drawE [(0, true), (1, true), (2, true), (3, true), (4, true), (5, false), (6, true)] mixed (by kernel_rfl) rfl (by kernel_rfl) ?_
    intro wd6 hEd6 hzd6
    replace hE := hE.trans hEd6
    replace hRL0 := hRL0.trans hEd6
    replace hx := hx.ext hEd6
    replace hl := hl.ext hEd6
    replace hB2 := hB2.ext hEd6
    replace hO := hO.ext hEd6
    replace hB7 := hB7.ext hEd6
    have hI := ownt_i hO
    have hDd6 := Ext.refl wd6
    refine PW_q rfl rfl (fun wq hq => ev_loads st97 sz97 rfl (cellsB (hq.blk hB2)) rfl) ?_
    refine PW_q rfl rfl (fun wq hq => ev_loads st92 sz92 rfl (cellsB (hq.blk hB7)) rfl) ?_
    refine PW_q rfl rfl (fun wq hq => ev_move rfl) ?_
    refine PW_q rfl rfl (fun wq hq => ev_move rfl) ?_
    refine PW_q rfl rfl (fun wq hq => ev_slice_lo Try.underlying23 sz3 rfl rfl (by omega) (by omega) (by omega)) ?_
    refine PW_m rfl rfl (ev_call rfl (result_spec a0 _ c0 _ _ x l[i].1 l[i].2 (s.drop (s.length - (needs l[i].1).toNat)) _ hx (by omega) hr hkk (by simp; omega) (hI.dropI (by omega) (by omega)) (by simp; omega) (fun y hy => hsr y (List.mem_of_mem_drop hy)))) ?_
    rintro _ w26 ⟨r26, rfl, hr26, hE26⟩
    have hz26 := hE26.size
    replace hE := hE.trans hE26
    replace hRL0 := hRL0.trans hE26
    replace hDd6 := hDd6.trans hE26
    have hres := hr26
    refine ⟨hDd6, ?_⟩
    refine PW_q rfl rfl (fun wq hq => ev_assign rfl) ?_
    replace hx := hx.ext hDd6
    replace hl := hl.ext hDd6
    replace hB2 := hB2.ext hDd6
    replace hO := hO.ext hDd6
    replace hB7 := hB7.ext hDd6
    refine PW_nil ?_
    refine thenE_n ?_
    refine W_region ?_
    refine WL_q rfl (ev_move rfl) ?_
    refine WL_q rfl (ev_move rfl) ?_
    refine WL_q rfl (ev_slice_hi Try.underlying23 sz3 rfl rfl (by omega) (by omega)) ?_
    replace hO := ownt_cut hO (m := ((s.length : Int) - (needs l[i].1)).toNat) (k := s.length - (needs l[i].1).toNat) (by omega) (by omega)
    refine WL_q rfl (ev_move rfl) ?_
    refine WL_q rfl (ev_max rfl rfl) ?_
    refine WL_q rfl (ev_min rfl rfl) ?_
    refine WL_m rfl (ev_lit1 Try.underlying23 el3 (by decide) (by decide) rfl rfl) ?_
    rintro _ w33 ⟨rfl, hN33⟩
    have hz33 := hN33.size
    replace hE := hE.trans hN33.ext
    replace hRL0 := hRL0.trans hN33.ext
    replace hx := hx.ext hN33.ext
    replace hl := hl.ext hN33.ext
    replace hB2 := hB2.ext hN33.ext
    replace hO := hO.ext hN33.ext
    replace hB7 := hB7.ext hN33.ext
    have hB33 := hN33.blk
    refine WL_m rfl (ev_appendT Try.underlying23 el3 rfl (by decide) rfl rfl hO (SAt.of_blk (cs := [_]) (ds := []) hB33) rfl (by simp [Value.oneCell']) (by omega) (by unfold maxLen; omega) (by omega)) ?_
    rintro _ w34 ⟨a34, c34, rfl, hO34, hK34, hQ34⟩
    have hz34 := hK34.size
    replace hE := hE.rg hK34 (by omega)
    replace hRL0 := hRL0.rg hK34 (by omega)
    replace hx := hx.rg hK34 (by omega)
    replace hl := hl.rg hK34 (by omega)
    replace hB2 := hB2.rg hK34 (by omega)
    replace hB7 := hB7.rg hK34 (by omega)
    replace hB33 := hB33.rg hK34 (by omega)
    replace hO := hO34
    replace hO := ownt_snocI hO
    refine WL_q rfl (ev_assign rfl) ?_
    refine WL_nil ?_
    refine blockE_n ?_
    refine thenE_n ?_
    refine W_region ?_
    refine WL_q rfl (ev_add rfl rfl (by omega)) ?_
    refine WL_q rfl (ev_move rfl) ?_
    refine WL_nil ?_
    refine thenE_n ?_
    have hsl2 := stk_len (s := s) (k := l[i].1) (r := r26) hk2 hnb.1
    exact ⟨(i + 1, a34, c34, stk s l[i].1 r26), (Subs.c rfl (Subs.c rfl (Subs.c rfl Subs.n))), (Subs.c (lkS rfl (by omega)) (Subs.c (lkI rfl (by omega)) Subs.n)), ⟨hRL0, ⟨by omega, (ownt_to hO (by unfold stk; first | rfl | (congr 2; unfold clip; omega)) (by omega)).up (Nat.le_refl _) (by omega), hRun.succ hlt ⟨r26, hres, rfl⟩, by rw [hk3, hsl2], range_step hsr⟩⟩, by first | omega | (dsimp only; omega)⟩
  · have hp13 := of_decide_eq_false hg13
    refine W_exit ?_
    refine thenE_x ?_
    refine thenE_x ?_
    refine blockE_hit ?_
    refine thenE_n ?_
    refine W_seq ?_
    refine W_region ?_
    refine WL_q rfl (ev_move rfl) ?_
    have hpos : 0 < s.length := vOk_pos hv (by omega) hV
    refine WL_q rfl (ev_indexAddr Try.underlying23 sz3 rfl rfl ((ownt_i hO).isSome (by omega)) (by omega) (by omega)) ?_
    refine WL_q rfl (ev_load one3 rfl ((ownt_i hO).cell (i := 0) (by omega))) ?_
    refine WL_q rfl (ev_assign rfl) ?_
    refine WL_nil ?_
    refine thenE_n ?_
    refine W_ret ?_
    refine ret1 rfl rfl ?_
    exact ⟨s, vi (by rw [head_get hpos]), (show i = l.length by omega) ▸ hRun, hE⟩

set_option maxRecDepth 100000 in
theorem l1Own_cut {lo hi n : Nat} (a : Option Addr) (c : Nat) (xs : List Int) (w : World) (hn : n = xs.length) (hx : Ints lo hi w a c xs) (hhi : hi ≤ w.heap.size) (hm : xs.length ≤ 1048576) :
    Fn Try.prog 59 #[.slice a n c] w (fun v w' => ∃ a' c', v = .slice a' xs.length c' ∧ Ints w.heap.size w'.heap.size w' a' c' xs ∧ Ext w w') := by
  subst hn
  have hE := Ext.refl w
  refine Fn_of Try.func59 rfl rfl (by kernel_rfl) rfl ?_
  refine W_seq ?_
  refine W_region ?_
  refine WL_q rfl (ev_assign rfl) ?_
  refine WL_nil ?_
  refine thenE_n ?_
  refine W_seq ?_
  refine W_region ?_
  refine WL_m rfl (ev_lit0 Try.underlying23 el3) ?_
  rintro _ w3 ⟨rfl, hN3⟩
  have hz3 := hN3.size
  replace hE := hE.trans hN3.ext
  replace hx := hx.ext hN3.ext
  have hB3 := hN3.blk
  have hOz := Own.of_new (n := 0) (sz := 1) hN3 rfl (by decide)
  refine WL_q rfl (ev_move rfl) ?_
  refine WL_m rfl (ev_append Try.underlying23 el3 rfl (by decide) rfl rfl hOz hx.sat (by simp) (by simp [Value.oneCell']) (by omega) (by unfold maxLen; omega) (by omega)) ?_
  rintro _ w5 ⟨a5, c5, rfl, hO5, hK5, hQ5⟩
  have hz5 := hK5.size
  replace hE := hE.app hK5 (fun q hq => (hOz.block q hq).1)
  replace hx := hx.app hK5 (hOz) (by omega)
  replace hOz := hO5
  refine WL_q rfl (ev_assign rfl) ?_
  refine WL_nil ?_
  refine thenE_n ?_
  refine W_ret ?_
  refine ret1 rfl rfl ?_
  exact ⟨a5, c5, by rw [Nat.zero_add], (Ints.of_own (by simp) (own_zadd hOz)), hE⟩

set_option maxHeartbeats 4000000 in
set_option maxRecDepth 100000 in
theorem vaEval_spec {lo hi l1 h1 : Nat} (a0 a1 : Option Addr) (c0 c1 : Nat) (x : Nd) (l : List (Int × Int)) (w : World) (hx : Ints lo hi w a0 c0 x.near) (hl : Pairs l1 h1 w a1 c1 l) (hhi : hi ≤ w.heap.size) (hhi1 : h1 ≤ w.heap.size) (hm : x.near.length ≤ 6) (hr : ∀ y ∈ x.near, -1000000 ≤ y ∧ y ≤ 1000000) (hv : vOk l = true) :
    Fn Try.prog 74 #[.slice a1 l.length c1, ndV a0 c0 x] w (fun u w' => ∃ s, u = VI (s.headD 0) ∧ RunN x l l.length s ∧ Ext w w') := by
  have hll := inR_true.1 (vOk_len hv)
  have hE := Ext.refl w
  refine Fn_of Try.func74 rfl rfl (by kernel_rfl) rfl ?_
  refine W_seq ?_
  refine W_region ?_
  refine WL_m rfl (ev_box rfl) ?_
  rintro _ w3 ⟨rfl, hN3⟩
  have hz3 := hN3.size
  replace hE := hE.trans hN3.ext
  replace hx := hx.ext hN3.ext
  replace hl := hl.ext hN3.ext
  have hB3 : Blk w3 _ _ [_, _, _, _, _] := hN3.blk
  refine WL_q rfl (ev_assign rfl) ?_
  refine WL_nil ?_
  refine thenE_n ?_
  refine W_seq ?_
  refine W_region ?_
  refine WL_q rfl (ev_assign rfl) ?_
  refine WL_nil ?_
  refine thenE_n ?_
  refine W_seq ?_
  refine W_seq ?_
  refine W_region ?_
  refine WL_q rfl (ev_move rfl) ?_
  refine WL_q rfl (ev_len Try.underlying60 rfl) ?_
  refine WL_q rfl (ev_move rfl) ?_
  refine WL_nil ?_
  refine thenE_n ?_
  refine W_block ?_
  refine W_loopC (G := Nat × Option Addr × Nat × List Int) [(3, _), (11, _), (12, _)] ((Subs.c rfl (Subs.c rfl (Subs.c rfl Subs.n)))) (fun ⟨i, a, c, s⟩ => [(5, .slice a s.length c), (13, VI (i : Int))]) (fun ⟨i, a, c, s⟩ w' => Lo (w3.heap.size) w3 w' ∧ i ≤ l.length ∧ OwnH w3.heap.size w'.heap.size 0 0 w' 3 1 a s.length c (s.map VI) ∧ RunN x l i s ∧ vRun 0 (l.take i) = some (s.length : Int) ∧ ∀ y ∈ s, -1000000 ≤ y ∧ y ≤ 1000000) (fun g => l.length - g.1) (0, none, 0, []) ((Subs.c rfl (Subs.c (lkI rfl (by omega)) Subs.n))) (⟨Lo.refl (by omega), ⟨by simp, OwnH.nil, .zero, by simp [vRun], by simp⟩⟩) ?_
  rintro ⟨i, a, c, s⟩ wL0 ⟨hRL0, hi', hO, hRun, hV, hsr⟩
  have hzL0 := hRL0.size
  replace hx := hx.lo hRL0 (by omega)
  replace hl := hl.lo hRL0 (by omega)
  replace hB3 := hB3.lo hRL0 (by omega)
  replace hE := hE.lo hRL0 (by omega)
  refine W_seq ?_
  refine W_region ?_
  refine WL_q rfl (ev_lss rfl rfl) ?_
  refine WL_nil ?_
  refine thenE_n ?_
  refine W_seq ?_
  refine W_cond rfl (fun hg14 => ?_) (fun hg14 => ?_)
  · have hp14 := of_decide_eq_true hg14
    refine W_skip ?_
    refine thenE_n ?_
    refine W_seq ?_
    refine W_block ?_
    refine W_seq ?_
    refine W_region ?_
    have hlt : i < l.length := by omega
    obtain ⟨hk1, hk2, hk3⟩ := vRun_at hv hlt hV
    have hkk := inR_true.1 hk1
    have hnb := needs_bd l[i].1
    have hcap := hO.1.cap.1
    have hbd := vRun_bd _ _ _ hV (by omega)
    have htl := List.length_take_le i l
    refine WL_q rfl (ev_indexAddr Try.underlying60 sz92 rfl rfl (hl.isSome (by omega)) (by omega) (by omega)) ?_
    refine WL_q rfl (ev_loads st92 sz92 rfl (hl.cells (i := i) (by omega)) rfl) ?_
    refine WL_m rfl (ev_alloc zr92) ?_
    rintro _ w7 ⟨rfl, hN7⟩
    have hz7 := hN7.size
    replace hE := hE.trans hN7.ext
    replace hRL0 := hRL0.trans hN7.ext
    replace hx := hx.ext hN7.ext
    replace hl := hl.ext hN7.ext
    replace hB3 := hB3.ext hN7.ext
    replace hO := hO.ext hN7.ext
    have hB7 : Blk w7 _ _ [_, _] := hN7.blk
    refine WL_s (ev_stores sz92 rfl rfl rfl (by simp [Value.oneCell']) hB7 (by simp)) ?_
    rintro _ w4_3 hS4_3
    have hz4_3 := hS4_3.size
    replace hE := hE.sto hS4_3 (by omega)
    replace hRL0 := hRL0.sto hS4_3 (by omega)
    replace hx := hx.sto hS4_3 (by omega)
    replace hl := hl.sto hS4_3 (by omega)
    replace hB3 := hB3.sto hS4_3 (by omega)
    replace hO := hO.sto hS4_3 (by omega)
    replace hB7 : Blk w4_3 _ _ [_, _] := hS4_3.blk
    refine WL_nil ?_
    refine thenE_n ?_
    refine W_seq ?_
    refine W_region ?_
    refine WL_q rfl (ev_move rfl) ?_
    refine WL_q rfl (ev_len Try.underlying23 rfl) ?_
    refine WL_q rfl (ev_fieldAddr fo92_0 rfl) ?_
    refine WL_q rfl (ev_load one3 rfl (hB7.cell rfl)) ?_
    refine WL_m rfl (ev_call rfl (vaNeeds_n _ _ hk1)) ?_
    rintro _ w21 ⟨rfl, hE21⟩
    have hz21 := hE21.size
    replace hE := hE.trans hE21
    replace hRL0 := hRL0.trans hE21
    replace hx := hx.ext hE21
    replace hl := hl.ext hE21
    replace hB3 := hB3.ext hE21
    replace hO := hO.ext hE21
    replace hB7 := hB7.ext hE21
    refine WL_q rfl (ev_sub rfl rfl (by omega)) ?_
    refine WL_q rfl (ev_assign rfl) ?_
    refine WL_nil ?_
    refine thenE_n ?_
    refine W_seq ?_
    refine W_region ?_
    refine WL_q rfl (ev_move rfl) ?_
    refine WL_q rfl (ev_move rfl) ?_
    refine WL_q rfl (ev_slice_lo Try.underlying23 sz3 rfl rfl (by omega) (by omega) (by omega)) ?_
    have hI := ownt_i hO
    refine WL_m rfl (ev_call rfl (l1Own_cut _ _ (s.drop (s.length - (needs l[i].1).toNat)) _ (by simp; omega) (hI.dropI (by omega) (by omega)) (by omega) (by simp; omega))) ?_
    rintro _ w26 ⟨a26, c26, rfl, hx26, hE26⟩
    have hz26 := hE26.size
    replace hE := hE.trans hE26
    replace hRL0 := hRL0.trans hE26
    replace hx := hx.ext hE26
    replace hl := hl.ext hE26
    replace hB3 := hB3.ext hE26
    replace hO := hO.ext hE26
    replace hB7 := hB7.ext hE26
    have hdl : (s.drop (s.length - (needs l[i].1).toNat)).length = (needs l[i].1).toNat := by simp; omega
    have hnc := needs_cases hkk
    refine WL_q rfl (ev_assign rfl) ?_
    refine WL_nil ?_
    refine thenE_n ?_
    refine W_seq ?_
    refine W_region ?_
    refine WL_q rfl (ev_assign rfl) ?_
    refine WL_nil ?_
    refine thenE_n ?_
    refine W_seq ?_
    refine W_block ?_
    refine W_seq ?_
    refine W_region ?_
    refine WL_q rfl (ev_move rfl) ?_
    refine WL_q rfl (ev_len Try.underlying23 rfl) ?_
    refine WL_q rfl (ev_eql rfl rfl) ?_
    refine WL_q rfl (ev_assign rfl) ?_
    refine WL_nil ?_
    refine thenE_n ?_
    refine W_cond rfl (fun hg33 => ?_) (fun hg33 => ?_)
    · have hp33 := of_decide_eq_true hg33
      refine W_region ?_
      refine WL_q rfl (ev_loads st90 sz90 rfl (cellsB hB3) rfl) ?_
      refine WL_q rfl (ev_loads st92 sz92 rfl (cellsB hB7) rfl) ?_
      refine WL_m rfl (ev_call rfl (vaLook_spec a0 c0 x l[i].1 l[i].2 _ hx (by omega) hr (by omega))) ?_
      rintro _ w36 ⟨r36, rfl, hr36, hE36⟩
      have hz36 := hE36.size
      replace hE := hE.trans hE36
      replace hRL0 := hRL0.trans hE36
      replace hx := hx.ext hE36
      replace hl := hl.ext hE36
      replace hB3 := hB3.ext hE36
      replace hO := hO.ext hE36
      replace hB7 := hB7.ext hE36
      replace hx26 := hx26.ext hE36
      refine WL_q rfl (ev_assign rfl) ?_
      refine WL_nil ?_
      refine blockE_n ?_
      refine thenE_n ?_
      refine W_drawR w3.heap.size wL0.heap.size 0 0 (fun w' => True) [(0, true), (1, true), (2, true), (3, true), (4, false), (5, false), (6, false), (7, true)] mixed (by kernel_rfl) rfl (by kernel_rfl) (fun _ _ => trivial) ?_
      intro wd19 hEd19 hzd19
      replace hE := hE.trans hEd19
      replace hRL0 := hRL0.trans hEd19
      replace hx := hx.ext hEd19
      replace hl := hl.ext hEd19
      replace hB3 := hB3.ext hEd19
      replace hO := hO.ext hEd19
      replace hB7 := hB7.ext hEd19
      replace hx26 := hx26.ext hEd19
      replace hO := ownt_cut hO (m := ((s.length : Int) - (needs l[i].1)).toNat) (k := s.length - (needs l[i].1).toNat) (by omega) (by omega)
      have hDd19 := (Rg.refl : Rg w3.heap.size wL0.heap.size 0 0 wd19 wd19)
      refine PW_q rfl rfl (fun wq hq => ev_move rfl) ?_
      refine PW_q rfl rfl (fun wq hq => ev_move rfl) ?_
      refine PW_q rfl rfl (fun wq hq => ev_slice_hi Try.underlying23 sz3 rfl rfl (by omega) (by omega)) ?_
      refine PW_q rfl rfl (fun wq hq => ev_move rfl) ?_
      refine PW_m rfl rfl (ev_call rfl (vaClip_spec _ _)) ?_
      rintro _ w84 ⟨rfl, hE84⟩
      have hz84 := hE84.size
      replace hE := hE.trans hE84
      replace hRL0 := hRL0.trans hE84
      replace hDd19 := hDd19.trans hE84
      replace hO := hO.ext hE84
      refine ⟨⟨hDd19, trivial⟩, ?_⟩
      have hx_5 := hx.rg hDd19 (by omega)
      have hl_5 := hl.rg hDd19 (by omega)
      have hB3_5 := hB3.rg hDd19 (by omega)
      have hB7_5 := hB7.rg hDd19 (by omega)
      have hx26_5 := hx26.rg hDd19 (by omega)
      refine PW_m rfl rfl (ev_lit1 Try.underlying23 el3 (by decide) (by decide) rfl rfl) ?_
      rintro _ w85 ⟨rfl, hN85⟩
      have hz85 := hN85.size
      replace hE := hE.trans hN85.ext
      replace hRL0 := hRL0.trans hN85.ext
      replace hDd19 := hDd19.trans hN85.ext
      replace hO := hO.ext hN85.ext
      have hB85 := hN85.blk
      refine ⟨⟨hDd19, trivial⟩, ?_⟩
      have hx_6 := hx.rg hDd19 (by omega)
      have hl_6 := hl.rg hDd19 (by omega)
      have hB3_6 := hB3.rg hDd19 (by omega)
      have hB7_6 := hB7.rg hDd19 (by omega)
      have hx26_6 := hx26.rg hDd19 (by omega)
      refine PW_m rfl rfl (ev_appendT Try.underlying23 el3 rfl (by decide) rfl rfl hO (SAt.of_blk (cs := [_]) (ds := []) hB85) rfl (by simp [Value.oneCell']) (by omega) (by unfold maxLen; omega) (by omega)) ?_
      rintro _ w86 ⟨a86, c86, rfl, hO86, hK86, hQ86⟩
      have hz86 := hK86.size
      replace hE := hE.rg hK86 (by omega)
      replace hRL0 := hRL0.rg hK86 (by omega)
      replace hDd19 := hDd19.rg hK86 (by omega)
      replace hB85 := hB85.rg hK86 (by omega)
      replace hO := hO86
      replace hO := ownt_snocI hO
      refine ⟨⟨hDd19, trivial⟩, ?_⟩
      refine PW_q rfl rfl (fun wq hq => ev_assign rfl) ?_
      replace hx := hx.rg hDd19 (by omega)
      replace hl := hl.rg hDd19 (by omega)
      replace hB3 := hB3.rg hDd19 (by omega)
      replace hB7 := hB7.rg hDd19 (by omega)
      replace hx26 := hx26.rg hDd19 (by omega)
      refine PW_nil ?_
      refine blockE_n ?_
      refine thenE_n ?_
      refine W_region ?_
      refine WL_q rfl (ev_add rfl rfl (by omega)) ?_
      refine WL_q rfl (ev_move rfl) ?_
      refine WL_nil ?_
      refine thenE_n ?_
      have hres : ResR x l[i].2 (s.drop (s.length - (needs l[i].1).toNat)) l[i].1 r36 := ResR.look (by omega) hr36
      have hsl2 := stk_len (s := s) (k := l[i].1) (r := r36) hk2 hnb.1
      exact ⟨(i + 1, a86, c86, stk s l[i].1 r36), (Subs.c rfl (Subs.c rfl (Subs.c rfl Subs.n))), (Subs.c (lkS rfl (by omega)) (Subs.c (lkI rfl (by omega)) Subs.n)), ⟨hRL0, ⟨by omega, (ownt_to hO (by unfold stk; first | rfl | (congr 2; unfold clip; omega)) (by omega)).up (Nat.le_refl _) (by omega), hRun.succ hlt ⟨r36, hres, rfl⟩, by rw [hk3, hsl2], range_step hsr⟩⟩, by first | omega | (dsimp only; omega)⟩
    · have hp33 := of_decide_eq_false hg33
      refine W_seq ?_
      refine W_region ?_
      refine WL_q rfl (ev_fieldAddr fo92_0 rfl) ?_
      refine WL_q rfl (ev_load one3 rfl (hB7.cell rfl)) ?_
      refine WL_q rfl (ev_eql rfl rfl) ?_
      refine WL_q rfl (ev_assign rfl) ?_
      refine WL_nil ?_
      refine thenE_n ?_
      refine W_cond rfl (fun hg40 => ?_) (fun hg40 => ?_)
      · have hp40 := of_decide_eq_true hg40
        refine W_drawE [(0, true), (1, true), (2, true), (3, true), (4, true), (5, true), (6, true), (7, true), (8, false), (9, true)] mixed (by kernel_rfl) rfl (by kernel_rfl) ?_
        intro wd12 hEd12 hzd12
        replace hE := hE.trans hEd12
        replace hRL0 := hRL0.trans hEd12
        replace hx := hx.ext hEd12
        replace hl := hl.ext hEd12
        replace hB3 := hB3.ext hEd12
        replace hO := hO.ext hEd12
        replace hB7 := hB7.ext hEd12
        replace hx26 := hx26.ext hEd12
        have h00 : 0 < (s.drop (s.length - (needs l[i].1).toNat)).length := by omega
        have b0 := hsr _ (List.mem_of_mem_drop (List.getElem_mem h00))
        have hDd12 := Ext.refl wd12
        refine PW_q rfl rfl (fun wq hq => ev_loads st90 sz90 rfl (cellsB (hq.blk hB3)) rfl) ?_
        refine PW_q rfl rfl (fun wq hq => ev_move rfl) ?_
        refine PW_q rfl rfl (fun wq hq => ev_indexAddr Try.underlying23 sz3 rfl rfl (hx26.isSome (by omega)) (by omega) (by omega)) ?_
        have hc44 := hx26.cell (i := 0) (by omega)
        refine PW_q rfl rfl (fun wq hq => ev_load one3 rfl (hq.cell (hc44))) ?_
        refine PW_q rfl rfl (fun wq hq => ev_move rfl) ?_
        refine PW_q rfl rfl (fun wq hq => ev_indexAddr Try.underlying23 sz3 rfl rfl (hx26.isSome (by omega)) (by omega) (by omega)) ?_
        have hc47 := hx26.cell (i := 0) (by omega)
        refine PW_q rfl rfl (fun wq hq => ev_load one3 rfl (hq.cell (hc47))) ?_
        refine PW_q rfl rfl (fun wq hq => ev_add rfl rfl (by omega)) ?_
        refine PW_m rfl rfl (ev_call rfl (vaCount_spec _ _ _ _ _ _ (by assumption) (by omega))) ?_
        rintro _ w49 ⟨rfl, hE49⟩
        have hz49 := hE49.size
        replace hE := hE.trans hE49
        replace hRL0 := hRL0.trans hE49
        replace hDd12 := hDd12.trans hE49
        refine ⟨hDd12, ?_⟩
        refine PW_q rfl rfl (fun wq hq => ev_assign rfl) ?_
        replace hx := hx.ext hDd12
        replace hl := hl.ext hDd12
        replace hB3 := hB3.ext hDd12
        replace hO := hO.ext hDd12
        replace hB7 := hB7.ext hDd12
        replace hx26 := hx26.ext hDd12
        refine PW_nil ?_
        refine blockE_n ?_
        refine thenE_n ?_
        refine W_drawR w3.heap.size wL0.heap.size 0 0 (fun w' => True) [(0, true), (1, true), (2, true), (3, true), (4, false), (5, false), (6, false), (7, true)] mixed (by kernel_rfl) rfl (by kernel_rfl) (fun _ _ => trivial) ?_
        intro wd19 hEd19 hzd19
        replace hE := hE.trans hEd19
        replace hRL0 := hRL0.trans hEd19
        replace hx := hx.ext hEd19
        replace hl := hl.ext hEd19
        replace hB3 := hB3.ext hEd19
        replace hO := hO.ext hEd19
        replace hB7 := hB7.ext hEd19
        replace hx26 := hx26.ext hEd19
        replace hO := ownt_cut hO (m := ((s.length : Int) - (needs l[i].1)).toNat) (k := s.length - (needs l[i].1).toNat) (by omega) (by omega)
        have hDd19 := (Rg.refl : Rg w3.heap.size wL0.heap.size 0 0 wd19 wd19)
        refine PW_q rfl rfl (fun wq hq => ev_move rfl) ?_
        refine PW_q rfl rfl (fun wq hq => ev_move rfl) ?_
        refine PW_q rfl rfl (fun wq hq => ev_slice_hi Try.underlying23 sz3 rfl rfl (by omega) (by omega)) ?_
        refine PW_q rfl rfl (fun wq hq => ev_move rfl) ?_
        refine PW_m rfl rfl (ev_call rfl (vaClip_spec _ _)) ?_
        rintro _ w84 ⟨rfl, hE84⟩
        have hz84 := hE84.size
        replace hE := hE.trans hE84
        replace hRL0 := hRL0.trans hE84
        replace hDd19 := hDd19.trans hE84
        replace hO := hO.ext hE84
        refine ⟨⟨hDd19, trivial⟩, ?_⟩
        have hx_5 := hx.rg hDd19 (by omega)
        have hl_5 := hl.rg hDd19 (by omega)
        have hB3_5 := hB3.rg hDd19 (by omega)
        have hB7_5 := hB7.rg hDd19 (by omega)
        have hx26_5 := hx26.rg hDd19 (by omega)
        refine PW_m rfl rfl (ev_lit1 Try.underlying23 el3 (by decide) (by decide) rfl rfl) ?_
        rintro _ w85 ⟨rfl, hN85⟩
        have hz85 := hN85.size
        replace hE := hE.trans hN85.ext
        replace hRL0 := hRL0.trans hN85.ext
        replace hDd19 := hDd19.trans hN85.ext
        replace hO := hO.ext hN85.ext
        have hB85 := hN85.blk
        refine ⟨⟨hDd19, trivial⟩, ?_⟩
        have hx_6 := hx.rg hDd19 (by omega)
        have hl_6 := hl.rg hDd19 (by omega)
        have hB3_6 := hB3.rg hDd19 (by omega)
        have hB7_6 := hB7.rg hDd19 (by omega)
        have hx26_6 := hx26.rg hDd19 (by omega)
        refine PW_m rfl rfl (ev_appendT Try.underlying23 el3 rfl (by decide) rfl rfl hO (SAt.of_blk (cs := [_]) (ds := []) hB85) rfl (by simp [Value.oneCell']) (by omega) (by unfold maxLen; omega) (by omega)) ?_
        rintro _ w86 ⟨a86, c86, rfl, hO86, hK86, hQ86⟩
        have hz86 := hK86.size
        replace hE := hE.rg hK86 (by omega)
        replace hRL0 := hRL0.rg hK86 (by omega)
        replace hDd19 := hDd19.rg hK86 (by omega)
        replace hB85 := hB85.rg hK86 (by omega)
        replace hO := hO86
        replace hO := ownt_snocI hO
        refine ⟨⟨hDd19, trivial⟩, ?_⟩
        refine PW_q rfl rfl (fun wq hq => ev_assign rfl) ?_
        replace hx := hx.rg hDd19 (by omega)
        replace hl := hl.rg hDd19 (by omega)
        replace hB3 := hB3.rg hDd19 (by omega)
        replace hB7 := hB7.rg hDd19 (by omega)
        replace hx26 := hx26.rg hDd19 (by omega)
        refine PW_nil ?_
        refine blockE_n ?_
        refine thenE_n ?_
        refine W_region ?_
        refine WL_q rfl (ev_add rfl rfl (by omega)) ?_
        refine WL_q rfl (ev_move rfl) ?_
        refine WL_nil ?_
        refine thenE_n ?_
        have hres : ResR x l[i].2 (s.drop (s.length - (needs l[i].1).toNat)) l[i].1 ((x.near.countP fun y => decide (((s.drop (s.length - (needs l[i].1).toNat))[0]'h00) ≤ y) && decide (y < ((s.drop (s.length - (needs l[i].1).toNat))[0]'h00) + 1) : Nat) : Int) := ResR.count' hp40 h00
        have hsl2 := stk_len (s := s) (k := l[i].1) (r := ((x.near.countP fun y => decide (((s.drop (s.length - (needs l[i].1).toNat))[0]'h00) ≤ y) && decide (y < ((s.drop (s.length - (needs l[i].1).toNat))[0]'h00) + 1) : Nat) : Int)) hk2 hnb.1
        exact ⟨(i + 1, a86, c86, stk s l[i].1 ((x.near.countP fun y => decide (((s.drop (s.length - (needs l[i].1).toNat))[0]'h00) ≤ y) && decide (y < ((s.drop (s.length - (needs l[i].1).toNat))[0]'h00) + 1) : Nat) : Int)), (Subs.c rfl (Subs.c rfl (Subs.c rfl Subs.n))), (Subs.c (lkS rfl (by omega)) (Subs.c (lkI rfl (by omega)) Subs.n)), ⟨hRL0, ⟨by omega, (ownt_to hO (by unfold stk; first | rfl | (congr 2; unfold clip; omega)) (by omega)).up (Nat.le_refl _) (by omega), hRun.succ hlt ⟨((x.near.countP fun y => decide (((s.drop (s.length - (needs l[i].1).toNat))[0]'h00) ≤ y) && decide (y < ((s.drop (s.length - (needs l[i].1).toNat))[0]'h00) + 1) : Nat) : Int), hres, rfl⟩, by rw [hk3, hsl2], range_step hsr⟩⟩, by first | omega | (dsimp only; omega)⟩
      · have hp40 := of_decide_eq_false hg40
        refine W_seq ?_
        refine W_region ?_
        refine WL_q rfl (ev_fieldAddr fo92_0 rfl) ?_
        refine WL_q rfl (ev_load one3 rfl (hB7.cell rfl)) ?_
        refine WL_q rfl (ev_eql rfl rfl) ?_
        refine WL_q rfl (ev_assign rfl) ?_
        refine WL_nil ?_
        refine thenE_n ?_
        refine W_cond rfl (fun hg53 => ?_) (fun hg53 => ?_)
        · have hp53 := of_decide_eq_true hg53
          refine W_drawE [(0, true), (1, true), (2, true), (3, true), (4, false), (5, true)] mixed (by kernel_rfl) rfl (by kernel_rfl) ?_
          intro wd14 hEd14 hzd14
          replace hE := hE.trans hEd14
          replace hRL0 := hRL0.trans hEd14
          replace hx := hx.ext hEd14
          replace hl := hl.ext hEd14
          replace hB3 := hB3.ext hEd14
          replace hO := hO.ext hEd14
          replace hB7 := hB7.ext hEd14
          replace hx26 := hx26.ext hEd14
          have h00 : 0 < (s.drop (s.length - (needs l[i].1).toNat)).length := by omega
          have b0 := hsr _ (List.mem_of_mem_drop (List.getElem_mem h00))
          have hDd14 := Ext.refl wd14
          refine PW_q rfl rfl (fun wq hq => ev_loads st90 sz90 rfl (cellsB (hq.blk hB3)) rfl) ?_
          refine PW_q rfl rfl (fun wq hq => ev_move rfl) ?_
          refine PW_q rfl rfl (fun wq hq => ev_indexAddr Try.underlying23 sz3 rfl rfl (hx26.isSome (by omega)) (by omega) (by omega)) ?_
          have hc57 := hx26.cell (i := 0) (by omega)
          refine PW_q rfl rfl (fun wq hq => ev_load one3 rfl (hq.cell (hc57))) ?_
          refine PW_m rfl rfl (ev_call rfl (vaCount_spec _ _ _ _ _ _ (by assumption) (by omega))) ?_
          rintro _ w58 ⟨rfl, hE58⟩
          have hz58 := hE58.size
          replace hE := hE.trans hE58
          replace hRL0 := hRL0.trans hE58
          replace hDd14 := hDd14.trans hE58
          refine ⟨hDd14, ?_⟩
          refine PW_q rfl rfl (fun wq hq => ev_assign rfl) ?_
          replace hx := hx.ext hDd14
          replace hl := hl.ext hDd14
          replace hB3 := hB3.ext hDd14
          replace hO := hO.ext hDd14
          replace hB7 := hB7.ext hDd14
          replace hx26 := hx26.ext hDd14
          refine PW_nil ?_
          refine blockE_n ?_
          refine thenE_n ?_
          refine W_drawR w3.heap.size wL0.heap.size 0 0 (fun w' => True) [(0, true), (1, true), (2, true), (3, true), (4, false), (5, false), (6, false), (7, true)] mixed (by kernel_rfl) rfl (by kernel_rfl) (fun _ _ => trivial) ?_
          intro wd19 hEd19 hzd19
          replace hE := hE.trans hEd19
          replace hRL0 := hRL0.trans hEd19
          replace hx := hx.ext hEd19
          replace hl := hl.ext hEd19
          replace hB3 := hB3.ext hEd19
          replace hO := hO.ext hEd19
          replace hB7 := hB7.ext hEd19
          replace hx26 := hx26.ext hEd19
          replace hO := ownt_cut hO (m := ((s.length : Int) - (needs l[i].1)).toNat) (k := s.length - (needs l[i].1).toNat) (by omega) (by omega)
          have hDd19 := (Rg.refl : Rg w3.heap.size wL0.heap.size 0 0 wd19 wd19)
          refine PW_q rfl rfl (fun wq hq => ev_move rfl) ?_
          refine PW_q rfl rfl (fun wq hq => ev_move rfl) ?_
          refine PW_q rfl rfl (fun wq hq => ev_slice_hi Try.underlying23 sz3 rfl rfl (by omega) (by omega)) ?_
          refine PW_q rfl rfl (fun wq hq => ev_move rfl) ?_
          refine PW_m rfl rfl (ev_call rfl (vaClip_spec _ _)) ?_
          rintro _ w84 ⟨rfl, hE84⟩
          have hz84 := hE84.size
          replace hE := hE.trans hE84
          replace hRL0 := hRL0.trans hE84
          replace hDd19 := hDd19.trans hE84
          replace hO := hO.ext hE84
          refine ⟨⟨hDd19, trivial⟩, ?_⟩
          have hx_5 := hx.rg hDd19 (by omega)
          have hl_5 := hl.rg hDd19 (by omega)
          have hB3_5 := hB3.rg hDd19 (by omega)
          have hB7_5 := hB7.rg hDd19 (by omega)
          have hx26_5 := hx26.rg hDd19 (by omega)
          refine PW_m rfl rfl (ev_lit1 Try.underlying23 el3 (by decide) (by decide) rfl rfl) ?_
          rintro _ w85 ⟨rfl, hN85⟩
          have hz85 := hN85.size
          replace hE := hE.trans hN85.ext
          replace hRL0 := hRL0.trans hN85.ext
          replace hDd19 := hDd19.trans hN85.ext
          replace hO := hO.ext hN85.ext
          have hB85 := hN85.blk
          refine ⟨⟨hDd19, trivial⟩, ?_⟩
          have hx_6 := hx.rg hDd19 (by omega)
          have hl_6 := hl.rg hDd19 (by omega)
          have hB3_6 := hB3.rg hDd19 (by omega)
          have hB7_6 := hB7.rg hDd19 (by omega)
          have hx26_6 := hx26.rg hDd19 (by omega)
          refine PW_m rfl rfl (ev_appendT Try.underlying23 el3 rfl (by decide) rfl rfl hO (SAt.of_blk (cs := [_]) (ds := []) hB85) rfl (by simp [Value.oneCell']) (by omega) (by unfold maxLen; omega) (by omega)) ?_
          rintro _ w86 ⟨a86, c86, rfl, hO86, hK86, hQ86⟩
          have hz86 := hK86.size
          replace hE := hE.rg hK86 (by omega)
          replace hRL0 := hRL0.rg hK86 (by omega)
          replace hDd19 := hDd19.rg hK86 (by omega)
          replace hB85 := hB85.rg hK86 (by omega)
          replace hO := hO86
          replace hO := ownt_snocI hO
          refine ⟨⟨hDd19, trivial⟩, ?_⟩
          refine PW_q rfl rfl (fun wq hq => ev_assign rfl) ?_
          replace hx := hx.rg hDd19 (by omega)
          replace hl := hl.rg hDd19 (by omega)
          replace hB3 := hB3.rg hDd19 (by omega)
          replace hB7 := hB7.rg hDd19 (by omega)
          replace hx26 := hx26.rg hDd19 (by omega)
          refine PW_nil ?_
          refine blockE_n ?_
          refine thenE_n ?_
          refine W_region ?_
          refine WL_q rfl (ev_add rfl rfl (by omega)) ?_
          refine WL_q rfl (ev_move rfl) ?_
          refine WL_nil ?_
          refine thenE_n ?_
          have hres : ResR x l[i].2 (s.drop (s.length - (needs l[i].1).toNat)) l[i].1 ((x.near.countP fun y => decide (-1000000 ≤ y) && decide (y < ((s.drop (s.length - (needs l[i].1).toNat))[0]'h00)) : Nat) : Int) := ResR.below' hp53 h00 hr
          have hsl2 := stk_len (s := s) (k := l[i].1) (r := ((x.near.countP fun y => decide (-1000000 ≤ y) && decide (y < ((s.drop (s.length - (needs l[i].1).toNat))[0]'h00)) : Nat) : Int)) hk2 hnb.1
          exact ⟨(i + 1, a86, c86, stk s l[i].1 ((x.near.countP fun y => decide (-1000000 ≤ y) && decide (y < ((s.drop (s.length - (needs l[i].1).toNat))[0]'h00)) : Nat) : Int)), (Subs.c rfl (Subs.c rfl (Subs.c rfl Subs.n))), (Subs.c (lkS rfl (by omega)) (Subs.c (lkI rfl (by omega)) Subs.n)), ⟨hRL0, ⟨by omega, (ownt_to hO (by unfold stk; first | rfl | (congr 2; unfold clip; omega)) (by omega)).up (Nat.le_refl _) (by omega), hRun.succ hlt ⟨((x.near.countP fun y => decide (-1000000 ≤ y) && decide (y < ((s.drop (s.length - (needs l[i].1).toNat))[0]'h00)) : Nat) : Int), hres, rfl⟩, by rw [hk3, hsl2], range_step hsr⟩⟩, by first | omega | (dsimp only; omega)⟩
        · have hp53 := of_decide_eq_false hg53
          refine W_seq ?_
          refine W_region ?_
          refine WL_q rfl (ev_move rfl) ?_
          refine WL_q rfl (ev_len Try.underlying23 rfl) ?_
          refine WL_q rfl (ev_eql rfl rfl) ?_
          refine WL_q rfl (ev_assign rfl) ?_
          refine WL_nil ?_
          refine thenE_n ?_
          refine W_cond rfl (fun hg62 => ?_) (fun hg62 => ?_)
          · have hp62 := of_decide_eq_true hg62
            refine W_drawE [(0, true), (1, true), (2, true), (3, true), (4, true), (5, true), (6, true), (7, true), (8, false), (9, true)] mixed (by kernel_rfl) rfl (by kernel_rfl) ?_
            intro wd16 hEd16 hzd16
            replace hE := hE.trans hEd16
            replace hRL0 := hRL0.trans hEd16
            replace hx := hx.ext hEd16
            replace hl := hl.ext hEd16
            replace hB3 := hB3.ext hEd16
            replace hO := hO.ext hEd16
            replace hB7 := hB7.ext hEd16
            replace hx26 := hx26.ext hEd16
            have h00 : 0 < (s.drop (s.length - (needs l[i].1).toNat)).length := by omega
            have b0 := hsr _ (List.mem_of_mem_drop (List.getElem_mem h00))
            have h10 : 1 < (s.drop (s.length - (needs l[i].1).toNat)).length := by omega
            have b1 := hsr _ (List.mem_of_mem_drop (List.getElem_mem h10))
            have hDd16 := Ext.refl wd16
            refine PW_q rfl rfl (fun wq hq => ev_fieldAddr fo92_0 rfl) ?_
            refine PW_q rfl rfl (fun wq hq => ev_load one3 rfl (hq.cell (hB7.cell rfl))) ?_
            refine PW_q rfl rfl (fun wq hq => ev_move rfl) ?_
            refine PW_q rfl rfl (fun wq hq => ev_indexAddr Try.underlying23 sz3 rfl rfl (hx26.isSome (by omega)) (by omega) (by omega)) ?_
            have hc67 := hx26.cell (i := 0) (by omega)
            refine PW_q rfl rfl (fun wq hq => ev_load one3 rfl (hq.cell (hc67))) ?_
            refine PW_q rfl rfl (fun wq hq => ev_move rfl) ?_
            refine PW_q rfl rfl (fun wq hq => ev_indexAddr Try.underlying23 sz3 rfl rfl (hx26.isSome (by omega)) (by omega) (by omega)) ?_
            have hc70 := hx26.cell (i := 1) (by omega)
            refine PW_q rfl rfl (fun wq hq => ev_load one3 rfl (hq.cell (hc70))) ?_
            refine PW_m rfl rfl (ev_call rfl (vaTwo_spec _ _ _ _ (by omega) (by omega))) ?_
            rintro _ w71 ⟨rfl, hE71⟩
            have hz71 := hE71.size
            replace hE := hE.trans hE71
            replace hRL0 := hRL0.trans hE71
            replace hDd16 := hDd16.trans hE71
            refine ⟨hDd16, ?_⟩
            refine PW_q rfl rfl (fun wq hq => ev_assign rfl) ?_
            replace hx := hx.ext hDd16
            replace hl := hl.ext hDd16
            replace hB3 := hB3.ext hDd16
            replace hO := hO.ext hDd16
            replace hB7 := hB7.ext hDd16
            replace hx26 := hx26.ext hDd16
            refine PW_nil ?_
            refine blockE_n ?_
            refine thenE_n ?_
            refine W_drawR w3.heap.size wL0.heap.size 0 0 (fun w' => True) [(0, true), (1, true), (2, true), (3, true), (4, false), (5, false), (6, false), (7, true)] mixed (by kernel_rfl) rfl (by kernel_rfl) (fun _ _ => trivial) ?_
            intro wd19 hEd19 hzd19
            replace hE := hE.trans hEd19
            replace hRL0 := hRL0.trans hEd19
            replace hx := hx.ext hEd19
            replace hl := hl.ext hEd19
            replace hB3 := hB3.ext hEd19
            replace hO := hO.ext hEd19
            replace hB7 := hB7.ext hEd19
            replace hx26 := hx26.ext hEd19
            replace hO := ownt_cut hO (m := ((s.length : Int) - (needs l[i].1)).toNat) (k := s.length - (needs l[i].1).toNat) (by omega) (by omega)
            have hDd19 := (Rg.refl : Rg w3.heap.size wL0.heap.size 0 0 wd19 wd19)
            refine PW_q rfl rfl (fun wq hq => ev_move rfl) ?_
            refine PW_q rfl rfl (fun wq hq => ev_move rfl) ?_
            refine PW_q rfl rfl (fun wq hq => ev_slice_hi Try.underlying23 sz3 rfl rfl (by omega) (by omega)) ?_
            refine PW_q rfl rfl (fun wq hq => ev_move rfl) ?_
            refine PW_m rfl rfl (ev_call rfl (vaClip_spec _ _)) ?_
            rintro _ w84 ⟨rfl, hE84⟩
            have hz84 := hE84.size
            replace hE := hE.trans hE84
            replace hRL0 := hRL0.trans hE84
            replace hDd19 := hDd19.trans hE84
            replace hO := hO.ext hE84
            refine ⟨⟨hDd19, trivial⟩, ?_⟩
            have hx_5 := hx.rg hDd19 (by omega)
            have hl_5 := hl.rg hDd19 (by omega)
            have hB3_5 := hB3.rg hDd19 (by omega)
            have hB7_5 := hB7.rg hDd19 (by omega)
            have hx26_5 := hx26.rg hDd19 (by omega)
            refine PW_m rfl rfl (ev_lit1 Try.underlying23 el3 (by decide) (by decide) rfl rfl) ?_
            rintro _ w85 ⟨rfl, hN85⟩
            have hz85 := hN85.size
            replace hE := hE.trans hN85.ext
            replace hRL0 := hRL0.trans hN85.ext
            replace hDd19 := hDd19.trans hN85.ext
            replace hO := hO.ext hN85.ext
            have hB85 := hN85.blk
            refine ⟨⟨hDd19, trivial⟩, ?_⟩
            have hx_6 := hx.rg hDd19 (by omega)
            have hl_6 := hl.rg hDd19 (by omega)
            have hB3_6 := hB3.rg hDd19 (by omega)
            have hB7_6 := hB7.rg hDd19 (by omega)
            have hx26_6 := hx26.rg hDd19 (by omega)
            refine PW_m rfl rfl (ev_appendT Try.underlying23 el3 rfl (by decide) rfl rfl hO (SAt.of_blk (cs := [_]) (ds := []) hB85) rfl (by simp [Value.oneCell']) (by omega) (by unfold maxLen; omega) (by omega)) ?_
            rintro _ w86 ⟨a86, c86, rfl, hO86, hK86, hQ86⟩
            have hz86 := hK86.size
            replace hE := hE.rg hK86 (by omega)
            replace hRL0 := hRL0.rg hK86 (by omega)
            replace hDd19 := hDd19.rg hK86 (by omega)
            replace hB85 := hB85.rg hK86 (by omega)
            replace hO := hO86
            replace hO := ownt_snocI hO
            refine ⟨⟨hDd19, trivial⟩, ?_⟩
            refine PW_q rfl rfl (fun wq hq => ev_assign rfl) ?_
            replace hx := hx.rg hDd19 (by omega)
            replace hl := hl.rg hDd19 (by omega)
            replace hB3 := hB3.rg hDd19 (by omega)
            replace hB7 := hB7.rg hDd19 (by omega)
            replace hx26 := hx26.rg hDd19 (by omega)
            refine PW_nil ?_
            refine blockE_n ?_
            refine thenE_n ?_
            refine W_region ?_
            refine WL_q rfl (ev_add rfl rfl (by omega)) ?_
            refine WL_q rfl (ev_move rfl) ?_
            refine WL_nil ?_
            refine thenE_n ?_
            have hres : ResR x l[i].2 (s.drop (s.length - (needs l[i].1).toNat)) l[i].1 (two l[i].1 ((s.drop (s.length - (needs l[i].1).toNat))[0]'h00) ((s.drop (s.length - (needs l[i].1).toNat))[1]'h10)) := resR_two (by omega) h00 h10
            have hsl2 := stk_len (s := s) (k := l[i].1) (r := (two l[i].1 ((s.drop (s.length - (needs l[i].1).toNat))[0]'h00) ((s.drop (s.length - (needs l[i].1).toNat))[1]'h10))) hk2 hnb.1
            exact ⟨(i + 1, a86, c86, stk s l[i].1 (two l[i].1 ((s.drop (s.length - (needs l[i].1).toNat))[0]'h00) ((s.drop (s.length - (needs l[i].1).toNat))[1]'h10))), (Subs.c rfl (Subs.c rfl (Subs.c rfl Subs.n))), (Subs.c (lkS rfl (by omega)) (Subs.c (lkI rfl (by omega)) Subs.n)), ⟨hRL0, ⟨by omega, (ownt_to hO (by unfold stk; first | rfl | (congr 2; unfold clip; omega)) (by omega)).up (Nat.le_refl _) (by omega), hRun.succ hlt ⟨(two l[i].1 ((s.drop (s.length - (needs l[i].1).toNat))[0]'h00) ((s.drop (s.length - (needs l[i].1).toNat))[1]'h10)), hres, rfl⟩, by rw [hk3, hsl2], range_step hsr⟩⟩, by first | omega | (dsimp only; omega)⟩
          · have hp62 := of_decide_eq_false hg62
            refine W_seq ?_
            refine W_region ?_
            have h00 : 0 < (s.drop (s.length - (needs l[i].1).toNat)).length := by omega
            have b0 := hsr _ (List.mem_of_mem_drop (List.getElem_mem h00))
            refine WL_q rfl (ev_move rfl) ?_
            refine WL_q rfl (ev_indexAddr Try.underlying23 sz3 rfl rfl (hx26.isSome (by omega)) (by omega) (by omega)) ?_
            refine WL_q rfl (ev_load one3 rfl (hx26.cell (i := 0) (by omega))) ?_
            refine WL_q rfl (ev_gtr rfl rfl) ?_
            refine WL_q rfl (ev_assign rfl) ?_
            refine WL_nil ?_
            refine thenE_n ?_
            refine W_cond rfl (fun hg76 => ?_) (fun hg76 => ?_)
            · have hp76 := of_decide_eq_true hg76
              refine W_region ?_
              have h10 : 1 < (s.drop (s.length - (needs l[i].1).toNat)).length := by omega
              have b1 := hsr _ (List.mem_of_mem_drop (List.getElem_mem h10))
              refine WL_q rfl (ev_move rfl) ?_
              refine WL_q rfl (ev_indexAddr Try.underlying23 sz3 rfl rfl (hx26.isSome (by omega)) (by omega) (by omega)) ?_
              refine WL_q rfl (ev_load one3 rfl (hx26.cell (i := 1) (by omega))) ?_
              refine WL_q rfl (ev_assign rfl) ?_
              refine WL_nil ?_
              refine blockE_n ?_
              refine thenE_n ?_
              refine W_drawR w3.heap.size wL0.heap.size 0 0 (fun w' => True) [(0, true), (1, true), (2, true), (3, true), (4, false), (5, false), (6, false), (7, true)] mixed (by kernel_rfl) rfl (by kernel_rfl) (fun _ _ => trivial) ?_
              intro wd19 hEd19 hzd19
              replace hE := hE.trans hEd19
              replace hRL0 := hRL0.trans hEd19
              replace hx := hx.ext hEd19
              replace hl := hl.ext hEd19
              replace hB3 := hB3.ext hEd19
              replace hO := hO.ext hEd19
              replace hB7 := hB7.ext hEd19
              replace hx26 := hx26.ext hEd19
              replace hO := ownt_cut hO (m := ((s.length : Int) - (needs l[i].1)).toNat) (k := s.length - (needs l[i].1).toNat) (by omega) (by omega)
              have hDd19 := (Rg.refl : Rg w3.heap.size wL0.heap.size 0 0 wd19 wd19)
              refine PW_q rfl rfl (fun wq hq => ev_move rfl) ?_
              refine PW_q rfl rfl (fun wq hq => ev_move rfl) ?_
              refine PW_q rfl rfl (fun wq hq => ev_slice_hi Try.underlying23 sz3 rfl rfl (by omega) (by omega)) ?_
              refine PW_q rfl rfl (fun wq hq => ev_move rfl) ?_
              refine PW_m rfl rfl (ev_call rfl (vaClip_spec _ _)) ?_
              rintro _ w84 ⟨rfl, hE84⟩
              have hz84 := hE84.size
              replace hE := hE.trans hE84
              replace hRL0 := hRL0.trans hE84
              replace hDd19 := hDd19.trans hE84
              replace hO := hO.ext hE84
              refine ⟨⟨hDd19, trivial⟩, ?_⟩
              have hx_5 := hx.rg hDd19 (by omega)
              have hl_5 := hl.rg hDd19 (by omega)
              have hB3_5 := hB3.rg hDd19 (by omega)
              have hB7_5 := hB7.rg hDd19 (by omega)
              have hx26_5 := hx26.rg hDd19 (by omega)
              refine PW_m rfl rfl (ev_lit1 Try.underlying23 el3 (by decide) (by decide) rfl rfl) ?_
              rintro _ w85 ⟨rfl, hN85⟩
              have hz85 := hN85.size
              replace hE := hE.trans hN85.ext
              replace hRL0 := hRL0.trans hN85.ext
              replace hDd19 := hDd19.trans hN85.ext
              replace hO := hO.ext hN85.ext
              have hB85 := hN85.blk
              refine ⟨⟨hDd19, trivial⟩, ?_⟩
              have hx_6 := hx.rg hDd19 (by omega)
              have hl_6 := hl.rg hDd19 (by omega)
              have hB3_6 := hB3.rg hDd19 (by omega)
              have hB7_6 := hB7.rg hDd19 (by omega)
              have hx26_6 := hx26.rg hDd19 (by omega)
              refine PW_m rfl rfl (ev_appendT Try.underlying23 el3 rfl (by decide) rfl rfl hO (SAt.of_blk (cs := [_]) (ds := []) hB85) rfl (by simp [Value.oneCell']) (by omega) (by unfold maxLen; omega) (by omega)) ?_
              rintro _ w86 ⟨a86, c86, rfl, hO86, hK86, hQ86⟩
              have hz86 := hK86.size
              replace hE := hE.rg hK86 (by omega)
              replace hRL0 := hRL0.rg hK86 (by omega)
              replace hDd19 := hDd19.rg hK86 (by omega)
              replace hB85 := hB85.rg hK86 (by omega)
              replace hO := hO86
              replace hO := ownt_snocI hO
              refine ⟨⟨hDd19, trivial⟩, ?_⟩
              refine PW_q rfl rfl (fun wq hq => ev_assign rfl) ?_
              replace hx := hx.rg hDd19 (by omega)
              replace hl := hl.rg hDd19 (by omega)
              replace hB3 := hB3.rg hDd19 (by omega)
              replace hB7 := hB7.rg hDd19 (by omega)
              replace hx26 := hx26.rg hDd19 (by omega)
              refine PW_nil ?_
              refine blockE_n ?_
              refine thenE_n ?_
              refine W_region ?_
              refine WL_q rfl (ev_add rfl rfl (by omega)) ?_
              refine WL_q rfl (ev_move rfl) ?_
              refine WL_nil ?_
              refine thenE_n ?_
              have hres : ResR x l[i].2 (s.drop (s.length - (needs l[i].1).toNat)) l[i].1 ((s.drop (s.length - (needs l[i].1).toNat))[1]'h10) := ResR.ifT (by omega) h00 h10 hp76
              have hsl2 := stk_len (s := s) (k := l[i].1) (r := ((s.drop (s.length - (needs l[i].1).toNat))[1]'h10)) hk2 hnb.1
              exact ⟨(i + 1, a86, c86, stk s l[i].1 ((s.drop (s.length - (needs l[i].1).toNat))[1]'h10)), (Subs.c rfl (Subs.c rfl (Subs.c rfl Subs.n))), (Subs.c (lkS rfl (by omega)) (Subs.c (lkI rfl (by omega)) Subs.n)), ⟨hRL0, ⟨by omega, (ownt_to hO (by unfold stk; first | rfl | (congr 2; unfold clip; omega)) (by omega)).up (Nat.le_refl _) (by omega), hRun.succ hlt ⟨((s.drop (s.length - (needs l[i].1).toNat))[1]'h10), hres, rfl⟩, by rw [hk3, hsl2], range_step hsr⟩⟩, by first | omega | (dsimp only; omega)⟩
            · have hp76 := of_decide_eq_false hg76
              refine W_region ?_
              have h20 : 2 < (s.drop (s.length - (needs l[i].1).toNat)).length := by omega
              refine WL_q rfl (ev_move rfl) ?_
              refine WL_q rfl (ev_indexAddr Try.underlying23 sz3 rfl rfl (hx26.isSome (by omega)) (by omega) (by omega)) ?_
              refine WL_q rfl (ev_load one3 rfl (hx26.cell (i := 2) (by omega))) ?_
              refine WL_q rfl (ev_assign rfl) ?_
              refine WL_nil ?_
              refine blockE_n ?_
              refine thenE_n ?_
              refine W_drawR w3.heap.size wL0.heap.size 0 0 (fun w' => True) [(0, true), (1, true), (2, true), (3, true), (4, false), (5, false), (6, false), (7, true)] mixed (by kernel_rfl) rfl (by kernel_rfl) (fun _ _ => trivial) ?_
              intro wd19 hEd19 hzd19
              replace hE := hE.trans hEd19
              replace hRL0 := hRL0.trans hEd19
              replace hx := hx.ext hEd19
              replace hl := hl.ext hEd19
              replace hB3 := hB3.ext hEd19
              replace hO := hO.ext hEd19
              replace hB7 := hB7.ext hEd19
              replace hx26 := hx26.ext hEd19
              replace hO := ownt_cut hO (m := ((s.length : Int) - (needs l[i].1)).toNat) (k := s.length - (needs l[i].1).toNat) (by omega) (by omega)
              have hDd19 := (Rg.refl : Rg w3.heap.size wL0.heap.size 0 0 wd19 wd19)
              refine PW_q rfl rfl (fun wq hq => ev_move rfl) ?_
              refine PW_q rfl rfl (fun wq hq => ev_move rfl) ?_
              refine PW_q rfl rfl (fun wq hq => ev_slice_hi Try.underlying23 sz3 rfl rfl (by omega) (by omega)) ?_
              refine PW_q rfl rfl (fun wq hq => ev_move rfl) ?_
              refine PW_m rfl rfl (ev_call rfl (vaClip_spec _ _)) ?_
              rintro _ w84 ⟨rfl, hE84⟩
              have hz84 := hE84.size
              replace hE := hE.trans hE84
              replace hRL0 := hRL0.trans hE84
              replace hDd19 := hDd19.trans hE84
              replace hO := hO.ext hE84
              refine ⟨⟨hDd19, trivial⟩, ?_⟩
              have hx_5 := hx.rg hDd19 (by omega)
              have hl_5 := hl.rg hDd19 (by omega)
              have hB3_5 := hB3.rg hDd19 (by omega)
              have hB7_5 := hB7.rg hDd19 (by omega)
              have hx26_5 := hx26.rg hDd19 (by omega)
              refine PW_m rfl rfl (ev_lit1 Try.underlying23 el3 (by decide) (by decide) rfl rfl) ?_
              rintro _ w85 ⟨rfl, hN85⟩
              have hz85 := hN85.size
              replace hE := hE.trans hN85.ext
              replace hRL0 := hRL0.trans hN85.ext
              replace hDd19 := hDd19.trans hN85.ext
              replace hO := hO.ext hN85.ext
              have hB85 := hN85.blk
              refine ⟨⟨hDd19, trivial⟩, ?_⟩
              have hx_6 := hx.rg hDd19 (by omega)
              have hl_6 := hl.rg hDd19 (by omega)
              have hB3_6 := hB3.rg hDd19 (by omega)
              have hB7_6 := hB7.rg hDd19 (by omega)
              have hx26_6 := hx26.rg hDd19 (by omega)
              refine PW_m rfl rfl (ev_appendT Try.underlying23 el3 rfl (by decide) rfl rfl hO (SAt.of_blk (cs := [_]) (ds := []) hB85) rfl (by simp [Value.oneCell']) (by omega) (by unfold maxLen; omega) (by omega)) ?_
              rintro _ w86 ⟨a86, c86, rfl, hO86, hK86, hQ86⟩
              have hz86 := hK86.size
              replace hE := hE.rg hK86 (by omega)
              replace hRL0 := hRL0.rg hK86 (by omega)
              replace hDd19 := hDd19.rg hK86 (by omega)
              replace hB85 := hB85.rg hK86 (by omega)
              replace hO := hO86
              replace hO := ownt_snocI hO
              refine ⟨⟨hDd19, trivial⟩, ?_⟩
              refine PW_q rfl rfl (fun wq hq => ev_assign rfl) ?_
              replace hx := hx.rg hDd19 (by omega)
              replace hl := hl.rg hDd19 (by omega)
              replace hB3 := hB3.rg hDd19 (by omega)
              replace hB7 := hB7.rg hDd19 (by omega)
              replace hx26 := hx26.rg hDd19 (by omega)
              refine PW_nil ?_
              refine blockE_n ?_
              refine thenE_n ?_
              refine W_region ?_
              refine WL_q rfl (ev_add rfl rfl (by omega)) ?_
              refine WL_q rfl (ev_move rfl) ?_
              refine WL_nil ?_
              refine thenE_n ?_
              have hres : ResR x l[i].2 (s.drop (s.length - (needs l[i].1).toNat)) l[i].1 ((s.drop (s.length - (needs l[i].1).toNat))[2]'h20) := ResR.ifF (by omega) h00 h20 hp76
              have hsl2 := stk_len (s := s) (k := l[i].1) (r := ((s.drop (s.length - (needs l[i].1).toNat))[2]'h20)) hk2 hnb.1
              exact ⟨(i + 1, a86, c86, stk s l[i].1 ((s.drop (s.length - (needs l[i].1).toNat))[2]'h20)), (Subs.c rfl (Subs.c rfl (Subs.c rfl Subs.n))), (Subs.c (lkS rfl (by omega)) (Subs.c (lkI rfl (by omega)) Subs.n)), ⟨hRL0, ⟨by omega, (ownt_to hO (by unfold stk; first | rfl | (congr 2; unfold clip; omega)) (by omega)).up (Nat.le_refl _) (by omega), hRun.succ hlt ⟨((s.drop (s.length - (needs l[i].1).toNat))[2]'h20), hres, rfl⟩, by rw [hk3, hsl2], range_step hsr⟩⟩, by first | omega | (dsimp only; omega)⟩
  · have hp14 := of_decide_eq_false hg14
    refine W_exit ?_
    refine thenE_x ?_
    refine thenE_x ?_
    refine blockE_hit ?_
    refine thenE_n ?_
    refine W_seq ?_
    refine W_region ?_
    refine WL_q rfl (ev_move rfl) ?_
    have hpos : 0 < s.length := vOk_pos hv (by omega) hV
    refine WL_q rfl (ev_indexAddr Try.underlying23 sz3 rfl rfl ((ownt_i hO).isSome (by omega)) (by omega) (by omega)) ?_
    refine WL_q rfl (ev_load one3 rfl ((ownt_i hO).cell (i := 0) (by omega))) ?_
    refine WL_q rfl (ev_assign rfl) ?_
    refine WL_nil ?_
    refine thenE_n ?_
    refine W_ret ?_
    refine ret1 rfl rfl ?_
    exact ⟨s, vi (by rw [head_get hpos]), (show i = l.length by omega) ▸ hRun, hE⟩

set_option maxRecDepth 100000 in
theorem isValue_spec (x : Int) (w : World) :
    Fn Try.prog 77 #[VI x] w (fun v w' => v = VB (inR x (-1000000) 1000000) ∧ Ext w w') := by
  have hE := Ext.refl w
  refine Fn_of Try.func77 rfl rfl (by kernel_rfl) rfl ?_
  refine W_seq ?_
  refine W_region ?_
  refine WL_q rfl (ev_assign rfl) ?_
  refine WL_nil ?_
  refine thenE_n ?_
  refine W_seq ?_
  refine W_region ?_
  refine WL_q rfl (ev_move rfl) ?_
  refine WL_m rfl (ev_call rfl (within_spec _ _ _ _)) ?_
  rintro _ _ ⟨rfl, rfl⟩
  refine WL_q rfl (ev_assign rfl) ?_
  refine WL_nil ?_
  refine thenE_n ?_
  refine W_ret ?_
  refine ret1 rfl rfl ?_
  exact ⟨rfl, hE⟩

set_option maxRecDepth 100000 in
theorem vaValues_spec {lo hi : Nat} (a : Option Addr) (c : Nat) (xs : List Int) (w : World) (hx : Ints lo hi w a c xs) (hm : xs.length ≤ 1048576) :
    Fn Try.prog 72 #[.slice a xs.length c] w (fun v w' => v = VB (allR xs (-1000000) 1000000) ∧ Ext w w') := by
  have hE := Ext.refl w
  refine Fn_of Try.func72 rfl rfl (by kernel_rfl) rfl ?_
  refine W_seq ?_
  refine W_region ?_
  refine WL_q rfl (ev_assign rfl) ?_
  refine WL_nil ?_
  refine thenE_n ?_
  refine W_seq ?_
  refine W_region ?_
  refine WL_q rfl (ev_move rfl) ?_
  refine WL_m rfl (ev_call rfl (l1All_spec _ _ xs _ _ _ hx (by omega))) ?_
  rintro _ w4 ⟨rfl, hE4⟩
  have hz4 := hE4.size
  replace hE := hE.trans hE4
  replace hx := hx.ext hE4
  refine WL_q rfl (ev_assign rfl) ?_
  refine WL_nil ?_
  refine thenE_n ?_
  refine W_ret ?_
  refine ret1 rfl rfl ?_
  exact ⟨rfl, hE⟩

set_option maxHeartbeats 2000000 in
set_option maxRecDepth 100000 in
theorem EvalValue_spec {lo hi l1 h1 : Nat} (a1 a0 : Option Addr) (c1 c0 : Nat) (l : List (Int × Int)) (own id inp rnd : Int) (near : List Int) (w : World) (hl : Pairs l1 h1 w a1 c1 l) (hy : Ints lo hi w a0 c0 near) (hhi1 : h1 ≤ w.heap.size) (hhi : hi ≤ w.heap.size) (hln : (l.length : Int) < 9223372036854775807) (hm : near.length ≤ 1048576) :
    Fn Try.prog 41 #[.slice a1 l.length c1, VI own, VI id, VI inp, VI rnd, .slice a0 near.length c0] w (fun v w' => ∃ r q, v = .tuple #[VI r, VB q] ∧ EvalR ⟨own, id, inp, rnd, near⟩ l r q ∧ Ext w w') := by
  have hE := Ext.refl w
  refine Fn_of Try.func41 rfl rfl (by kernel_rfl) rfl ?_
  refine W_seq ?_
  refine W_region ?_
  refine WL_q rfl (ev_assign rfl) ?_
  refine WL_q rfl (ev_assign rfl) ?_
  refine WL_nil ?_
  refine thenE_n ?_
  refine W_seq ?_
  refine W_seq ?_
  refine W_region ?_
  refine WL_q rfl (ev_move rfl) ?_
  refine WL_m rfl (ev_call rfl (IsValueProgram_spec _ _ _ _ (by assumption) (by omega))) ?_
  rintro _ w15 ⟨rfl, hE15⟩
  have hz15 := hE15.size
  replace hE := hE.trans hE15
  replace hl := hl.ext hE15
  replace hy := hy.ext hE15
  refine WL_q rfl (ev_not rfl) ?_
  refine WL_q rfl (ev_move rfl) ?_
  refine WL_splitv (t := 17) rfl (fun hg16 => ?_) (fun hg16 => ?_)
  · have hg15 := not_true hg16
    refine WL_no rfl rfl hg16 rfl ?_
    refine WL_no rfl rfl hg16 rfl ?_
    refine WL_no rfl rfl hg16 rfl ?_
    refine WL_q rfl (ev_pick_t rfl hg16 rfl) ?_
    refine WL_q rfl (ev_move rfl) ?_
    refine WL_no rfl rfl rfl rfl ?_
    refine WL_no rfl rfl rfl rfl ?_
    refine WL_no rfl rfl rfl rfl ?_
    refine WL_q rfl (ev_pick_t rfl rfl rfl) ?_
    refine WL_q rfl (ev_move rfl) ?_
    refine WL_no rfl rfl rfl rfl ?_
    refine WL_no rfl rfl rfl rfl ?_
    refine WL_no rfl rfl rfl rfl ?_
    refine WL_q rfl (ev_pick_t rfl rfl rfl) ?_
    refine WL_q rfl (ev_move rfl) ?_
    refine WL_no rfl rfl rfl rfl ?_
    refine WL_no rfl rfl rfl rfl ?_
    refine WL_no rfl rfl rfl rfl ?_
    refine WL_q rfl (ev_pick_t rfl rfl rfl) ?_
    refine WL_nil ?_
    refine thenE_n ?_
    refine W_cond_t rfl ?_
    refine W_seq ?_
    refine W_region ?_
    refine WL_q rfl (ev_assign rfl) ?_
    refine WL_q rfl (ev_assign rfl) ?_
    refine WL_nil ?_
    refine thenE_n ?_
    refine W_ret ?_
    refine thenE_r ?_
    refine ret2 rfl rfl rfl ?_
    first | (exact ⟨_, _, rfl, .no (fun h => tf hg15 h.1), hE⟩) | (exact ⟨_, _, rfl, .no (fun h => tf hg19 h.2.1), hE⟩) | (exact ⟨_, _, rfl, .no (fun h => tf hg24 h.2.2.1), hE⟩) | (exact ⟨_, _, rfl, .no (fun h => tf hg29 h.2.2.2.1), hE⟩) | (exact ⟨_, _, rfl, .no (fun h => tf hg34 h.2.2.2.2.1), hE⟩) | (exact ⟨_, _, rfl, .no (fun h => by have h9 : (near.length : Int) ≤ 6 := h.2.2.2.2.2.1; omega), hE⟩) | (exact ⟨_, _, rfl, .no (fun h => tf hg42 h.2.2.2.2.2.2), hE⟩) | (exact ⟨_, _, rfl, .yes ⟨hg15, hg19, hg24, hg29, hg34, (show (near.length : Int) ≤ 6 by omega), hg42⟩ hs52, hE⟩)
  · have hg15 := not_false hg16
    refine WL_qg rfl rfl hg16 rfl (ev_move rfl) ?_
    refine WL_mg rfl rfl hg16 rfl (ev_call rfl (isValue_spec _ _)) ?_
    rintro _ w19 ⟨rfl, hE19⟩
    have hz19 := hE19.size
    replace hE := hE.trans hE19
    replace hl := hl.ext hE19
    replace hy := hy.ext hE19
    refine WL_qg rfl rfl hg16 rfl (ev_not rfl) ?_
    refine WL_q rfl (ev_pick_f rfl hg16 rfl) ?_
    refine WL_q rfl (ev_move rfl) ?_
    refine WL_splitv (t := 22) rfl (fun hg20 => ?_) (fun hg20 => ?_)
    · have hg19 := not_true hg20
      refine WL_no rfl rfl hg20 rfl ?_
      refine WL_no rfl rfl hg20 rfl ?_
      refine WL_no rfl rfl hg20 rfl ?_
      refine WL_q rfl (ev_pick_t rfl hg20 rfl) ?_
      refine WL_q rfl (ev_move rfl) ?_
      refine WL_no rfl rfl rfl rfl ?_
      refine WL_no rfl rfl rfl rfl ?_
      refine WL_no rfl rfl rfl rfl ?_
      refine WL_q rfl (ev_pick_t rfl rfl rfl) ?_
      refine WL_q rfl (ev_move rfl) ?_
      refine WL_no rfl rfl rfl rfl ?_
      refine WL_no rfl rfl rfl rfl ?_
      refine WL_no rfl rfl rfl rfl ?_
      refine WL_q rfl (ev_pick_t rfl rfl rfl) ?_
      refine WL_nil ?_
      refine thenE_n ?_
      refine W_cond_t rfl ?_
      refine W_seq ?_
      refine W_region ?_
      refine WL_q rfl (ev_assign rfl) ?_
      refine WL_q rfl (ev_assign rfl) ?_
      refine WL_nil ?_
      refine thenE_n ?_
      refine W_ret ?_
      refine thenE_r ?_
      refine ret2 rfl rfl rfl ?_
      first | (exact ⟨_, _, rfl, .no (fun h => tf hg15 h.1), hE⟩) | (exact ⟨_, _, rfl, .no (fun h => tf hg19 h.2.1), hE⟩) | (exact ⟨_, _, rfl, .no (fun h => tf hg24 h.2.2.1), hE⟩) | (exact ⟨_, _, rfl, .no (fun h => tf hg29 h.2.2.2.1), hE⟩) | (exact ⟨_, _, rfl, .no (fun h => tf hg34 h.2.2.2.2.1), hE⟩) | (exact ⟨_, _, rfl, .no (fun h => by have h9 : (near.length : Int) ≤ 6 := h.2.2.2.2.2.1; omega), hE⟩) | (exact ⟨_, _, rfl, .no (fun h => tf hg42 h.2.2.2.2.2.2), hE⟩) | (exact ⟨_, _, rfl, .yes ⟨hg15, hg19, hg24, hg29, hg34, (show (near.length : Int) ≤ 6 by omega), hg42⟩ hs52, hE⟩)
    · have hg19 := not_false hg20
      refine WL_qg rfl rfl hg20 rfl (ev_move rfl) ?_
      refine WL_mg rfl rfl hg20 rfl (ev_call rfl (within_spec _ _ _ _)) ?_
      rintro _ _ ⟨rfl, rfl⟩
      refine WL_qg rfl rfl hg20 rfl (ev_not rfl) ?_
      refine WL_q rfl (ev_pick_f rfl hg20 rfl) ?_
      refine WL_q rfl (ev_move rfl) ?_
      refine WL_splitv (t := 27) rfl (fun hg25 => ?_) (fun hg25 => ?_)
      · have hg24 := not_true hg25
        have hp24 := inR_false.1 hg24
        refine WL_no rfl rfl hg25 rfl ?_
        refine WL_no rfl rfl hg25 rfl ?_
        refine WL_no rfl rfl hg25 rfl ?_
        refine WL_q rfl (ev_pick_t rfl hg25 rfl) ?_
        refine WL_q rfl (ev_move rfl) ?_
        refine WL_no rfl rfl rfl rfl ?_
        refine WL_no rfl rfl rfl rfl ?_
        refine WL_no rfl rfl rfl rfl ?_
        refine WL_q rfl (ev_pick_t rfl rfl rfl) ?_
        refine WL_nil ?_
        refine thenE_n ?_
        refine W_cond_t rfl ?_
        refine W_seq ?_
        refine W_region ?_
        refine WL_q rfl (ev_assign rfl) ?_
        refine WL_q rfl (ev_assign rfl) ?_
        refine WL_nil ?_
        refine thenE_n ?_
        refine W_ret ?_
        refine thenE_r ?_
        refine ret2 rfl rfl rfl ?_
        first | (exact ⟨_, _, rfl, .no (fun h => tf hg15 h.1), hE⟩) | (exact ⟨_, _, rfl, .no (fun h => tf hg19 h.2.1), hE⟩) | (exact ⟨_, _, rfl, .no (fun h => tf hg24 h.2.2.1), hE⟩) | (exact ⟨_, _, rfl, .no (fun h => tf hg29 h.2.2.2.1), hE⟩) | (exact ⟨_, _, rfl, .no (fun h => tf hg34 h.2.2.2.2.1), hE⟩) | (exact ⟨_, _, rfl, .no (fun h => by have h9 : (near.length : Int) ≤ 6 := h.2.2.2.2.2.1; omega), hE⟩) | (exact ⟨_, _, rfl, .no (fun h => tf hg42 h.2.2.2.2.2.2), hE⟩) | (exact ⟨_, _, rfl, .yes ⟨hg15, hg19, hg24, hg29, hg34, (show (near.length : Int) ≤ 6 by omega), hg42⟩ hs52, hE⟩)
      · have hg24 := not_false hg25
        have hp24 := inR_true.1 hg24
        refine WL_qg rfl rfl hg25 rfl (ev_move rfl) ?_
        refine WL_mg rfl rfl hg25 rfl (ev_call rfl (within_spec _ _ _ _)) ?_
        rintro _ _ ⟨rfl, rfl⟩
        refine WL_qg rfl rfl hg25 rfl (ev_not rfl) ?_
        refine WL_q rfl (ev_pick_f rfl hg25 rfl) ?_
        refine WL_q rfl (ev_move rfl) ?_
        refine WL_splitv (t := 32) rfl (fun hg30 => ?_) (fun hg30 => ?_)
        · have hg29 := not_true hg30
          have hp29 := inR_false.1 hg29
          refine WL_no rfl rfl hg30 rfl ?_
          refine WL_no rfl rfl hg30 rfl ?_
          refine WL_no rfl rfl hg30 rfl ?_
          refine WL_q rfl (ev_pick_t rfl hg30 rfl) ?_
          refine WL_nil ?_
          refine thenE_n ?_
          refine W_cond_t rfl ?_
          refine W_seq ?_
          refine W_region ?_
          refine WL_q rfl (ev_assign rfl) ?_
          refine WL_q rfl (ev_assign rfl) ?_
          refine WL_nil ?_
          refine thenE_n ?_
          refine W_ret ?_
          refine thenE_r ?_
          refine ret2 rfl rfl rfl ?_
          first | (exact ⟨_, _, rfl, .no (fun h => tf hg15 h.1), hE⟩) | (exact ⟨_, _, rfl, .no (fun h => tf hg19 h.2.1), hE⟩) | (exact ⟨_, _, rfl, .no (fun h => tf hg24 h.2.2.1), hE⟩) | (exact ⟨_, _, rfl, .no (fun h => tf hg29 h.2.2.2.1), hE⟩) | (exact ⟨_, _, rfl, .no (fun h => tf hg34 h.2.2.2.2.1), hE⟩) | (exact ⟨_, _, rfl, .no (fun h => by have h9 : (near.length : Int) ≤ 6 := h.2.2.2.2.2.1; omega), hE⟩) | (exact ⟨_, _, rfl, .no (fun h => tf hg42 h.2.2.2.2.2.2), hE⟩) | (exact ⟨_, _, rfl, .yes ⟨hg15, hg19, hg24, hg29, hg34, (show (near.length : Int) ≤ 6 by omega), hg42⟩ hs52, hE⟩)
        · have hg29 := not_false hg30
          have hp29 := inR_true.1 hg29
          refine WL_qg rfl rfl hg30 rfl (ev_move rfl) ?_
          refine WL_mg rfl rfl hg30 rfl (ev_call rfl (within_spec _ _ _ _)) ?_
          rintro _ _ ⟨rfl, rfl⟩
          refine WL_qg rfl rfl hg30 rfl (ev_not rfl) ?_
          refine WL_q rfl (ev_pick_f rfl hg30 rfl) ?_
          refine WL_nil ?_
          refine thenE_n ?_
          refine W_cond rfl (fun hg35 => ?_) (fun hg35 => ?_)
          · have hg34 := not_true hg35
            have hp34 := inR_false.1 hg34
            refine W_seq ?_
            refine W_region ?_
            refine WL_q rfl (ev_assign rfl) ?_
            refine WL_q rfl (ev_assign rfl) ?_
            refine WL_nil ?_
            refine thenE_n ?_
            refine W_ret ?_
            refine thenE_r ?_
            refine ret2 rfl rfl rfl ?_
            first | (exact ⟨_, _, rfl, .no (fun h => tf hg15 h.1), hE⟩) | (exact ⟨_, _, rfl, .no (fun h => tf hg19 h.2.1), hE⟩) | (exact ⟨_, _, rfl, .no (fun h => tf hg24 h.2.2.1), hE⟩) | (exact ⟨_, _, rfl, .no (fun h => tf hg29 h.2.2.2.1), hE⟩) | (exact ⟨_, _, rfl, .no (fun h => tf hg34 h.2.2.2.2.1), hE⟩) | (exact ⟨_, _, rfl, .no (fun h => by have h9 : (near.length : Int) ≤ 6 := h.2.2.2.2.2.1; omega), hE⟩) | (exact ⟨_, _, rfl, .no (fun h => tf hg42 h.2.2.2.2.2.2), hE⟩) | (exact ⟨_, _, rfl, .yes ⟨hg15, hg19, hg24, hg29, hg34, (show (near.length : Int) ≤ 6 by omega), hg42⟩ hs52, hE⟩)
          · have hg34 := not_false hg35
            have hp34 := inR_true.1 hg34
            refine W_skip ?_
            refine thenE_n ?_
            refine W_seq ?_
            refine W_seq ?_
            refine W_region ?_
            refine WL_q rfl (ev_move rfl) ?_
            refine WL_q rfl (ev_len Try.underlying23 rfl) ?_
            refine WL_q rfl (ev_gtr rfl rfl) ?_
            refine WL_q rfl (ev_move rfl) ?_
            refine WL_splitv (t := 40) rfl (fun hg39 => ?_) (fun hg39 => ?_)
            · have hp39 := of_decide_eq_true hg39
              refine WL_no rfl rfl hg39 rfl ?_
              refine WL_no rfl rfl hg39 rfl ?_
              refine WL_no rfl rfl hg39 rfl ?_
              refine WL_q rfl (ev_pick_t rfl hg39 rfl) ?_
              refine WL_nil ?_
              refine thenE_n ?_
              refine W_cond_t rfl ?_
              refine W_seq ?_
              refine W_region ?_
              refine WL_q rfl (ev_assign rfl) ?_
              refine WL_q rfl (ev_assign rfl) ?_
              refine WL_nil ?_
              refine thenE_n ?_
              refine W_ret ?_
              refine thenE_r ?_
              refine ret2 rfl rfl rfl ?_
              first | (exact ⟨_, _, rfl, .no (fun h => tf hg15 h.1), hE⟩) | (exact ⟨_, _, rfl, .no (fun h => tf hg19 h.2.1), hE⟩) | (exact ⟨_, _, rfl, .no (fun h => tf hg24 h.2.2.1), hE⟩) | (exact ⟨_, _, rfl, .no (fun h => tf hg29 h.2.2.2.1), hE⟩) | (exact ⟨_, _, rfl, .no (fun h => tf hg34 h.2.2.2.2.1), hE⟩) | (exact ⟨_, _, rfl, .no (fun h => by have h9 : (near.length : Int) ≤ 6 := h.2.2.2.2.2.1; omega), hE⟩) | (exact ⟨_, _, rfl, .no (fun h => tf hg42 h.2.2.2.2.2.2), hE⟩) | (exact ⟨_, _, rfl, .yes ⟨hg15, hg19, hg24, hg29, hg34, (show (near.length : Int) ≤ 6 by omega), hg42⟩ hs52, hE⟩)
            · have hp39 := of_decide_eq_false hg39
              refine WL_qg rfl rfl hg39 rfl (ev_move rfl) ?_
              refine WL_mg rfl rfl hg39 rfl (ev_call rfl (allWithin_spec _ _ near _ _ _ hy (by omega))) ?_
              rintro _ w42 ⟨rfl, hE42⟩
              have hz42 := hE42.size
              replace hE := hE.trans hE42
              replace hl := hl.ext hE42
              replace hy := hy.ext hE42
              refine WL_qg rfl rfl hg39 rfl (ev_not rfl) ?_
              refine WL_q rfl (ev_pick_f rfl hg39 rfl) ?_
              refine WL_nil ?_
              refine thenE_n ?_
              refine W_cond rfl (fun hg43 => ?_) (fun hg43 => ?_)
              · have hg42 := not_true hg43
                refine W_seq ?_
                refine W_region ?_
                refine WL_q rfl (ev_assign rfl) ?_
                refine WL_q rfl (ev_assign rfl) ?_
                refine WL_nil ?_
                refine thenE_n ?_
                refine W_ret ?_
                refine thenE_r ?_
                refine ret2 rfl rfl rfl ?_
                first | (exact ⟨_, _, rfl, .no (fun h => tf hg15 h.1), hE⟩) | (exact ⟨_, _, rfl, .no (fun h => tf hg19 h.2.1), hE⟩) | (exact ⟨_, _, rfl, .no (fun h => tf hg24 h.2.2.1), hE⟩) | (exact ⟨_, _, rfl, .no (fun h => tf hg29 h.2.2.2.1), hE⟩) | (exact ⟨_, _, rfl, .no (fun h => tf hg34 h.2.2.2.2.1), hE⟩) | (exact ⟨_, _, rfl, .no (fun h => by have h9 : (near.length : Int) ≤ 6 := h.2.2.2.2.2.1; omega), hE⟩) | (exact ⟨_, _, rfl, .no (fun h => tf hg42 h.2.2.2.2.2.2), hE⟩) | (exact ⟨_, _, rfl, .yes ⟨hg15, hg19, hg24, hg29, hg34, (show (near.length : Int) ≤ 6 by omega), hg42⟩ hs52, hE⟩)
              · have hg42 := not_false hg43
                refine W_skip ?_
                refine thenE_n ?_
                refine W_seq ?_
                refine W_region ?_
                refine WL_q rfl (ev_move rfl) ?_
                refine WL_q rfl (ev_move rfl) ?_
                refine WL_q rfl (ev_move rfl) ?_
                refine WL_q rfl (ev_move rfl) ?_
                refine WL_q rfl (ev_move rfl) ?_
                refine WL_q rfl (ev_build5 sn97_5 rfl rfl rfl rfl rfl rfl rfl rfl rfl rfl) ?_
                refine WL_q rfl (ev_move rfl) ?_
                refine WL_m rfl (ev_call rfl (eval_spec a0 a1 c0 c1 ⟨own, id, inp, rnd, near⟩ l _ hy hl (by omega) (by omega) (show near.length ≤ 6 by omega) (allR_true.1 hg42) hg15)) ?_
                rintro _ w52 ⟨s52, rfl, hs52, hE52⟩
                have hz52 := hE52.size
                replace hE := hE.trans hE52
                replace hl := hl.ext hE52
                replace hy := hy.ext hE52
                refine WL_q rfl (ev_assign rfl) ?_
                refine WL_q rfl (ev_assign rfl) ?_
                refine WL_nil ?_
                refine thenE_n ?_
                refine W_ret ?_
                refine ret2 rfl rfl rfl ?_
                first | (exact ⟨_, _, rfl, .no (fun h => tf hg15 h.1), hE⟩) | (exact ⟨_, _, rfl, .no (fun h => tf hg19 h.2.1), hE⟩) | (exact ⟨_, _, rfl, .no (fun h => tf hg24 h.2.2.1), hE⟩) | (exact ⟨_, _, rfl, .no (fun h => tf hg29 h.2.2.2.1), hE⟩) | (exact ⟨_, _, rfl, .no (fun h => tf hg34 h.2.2.2.2.1), hE⟩) | (exact ⟨_, _, rfl, .no (fun h => by have h9 : (near.length : Int) ≤ 6 := h.2.2.2.2.2.1; omega), hE⟩) | (exact ⟨_, _, rfl, .no (fun h => tf hg42 h.2.2.2.2.2.2), hE⟩) | (exact ⟨_, _, rfl, .yes ⟨hg15, hg19, hg24, hg29, hg34, (show (near.length : Int) ≤ 6 by omega), hg42⟩ hs52, hE⟩)

set_option maxHeartbeats 2000000 in
set_option maxRecDepth 100000 in
theorem sEvalValue_spec {lo hi l1 h1 : Nat} (a1 a0 : Option Addr) (c1 c0 : Nat) (l : List (Int × Int)) (own id inp rnd : Int) (near : List Int) (w : World) (hl : Pairs l1 h1 w a1 c1 l) (hy : Ints lo hi w a0 c0 near) (hhi1 : h1 ≤ w.heap.size) (hhi : hi ≤ w.heap.size) (hln : (l.length : Int) < 9223372036854775807) (hm : near.length ≤ 1048576) :
    Fn Try.prog 39 #[.slice a1 l.length c1, VI own, VI id, VI inp, VI rnd, .slice a0 near.length c0] w (fun v w' => ∃ r q, v = .tuple #[VI r, VB q] ∧ EvalR ⟨own, id, inp, rnd, near⟩ l r q ∧ Ext w w') := by
  have hE := Ext.refl w
  refine Fn_of Try.func39 rfl rfl (by kernel_rfl) rfl ?_
  refine W_seq ?_
  refine W_region ?_
  refine WL_q rfl (ev_assign rfl) ?_
  refine WL_q rfl (ev_assign rfl) ?_
  refine WL_nil ?_
  refine thenE_n ?_
  refine W_seq ?_
  refine W_seq ?_
  refine W_region ?_
  refine WL_q rfl (ev_move rfl) ?_
  refine WL_m rfl (ev_call rfl (vaGood_spec _ _ _ _ (by assumption) (by omega))) ?_
  rintro _ w15 ⟨rfl, hE15⟩
  have hz15 := hE15.size
  replace hE := hE.trans hE15
  replace hl := hl.ext hE15
  replace hy := hy.ext hE15
  refine WL_q rfl (ev_not rfl) ?_
  refine WL_q rfl (ev_move rfl) ?_
  refine WL_splitv (t := 17) rfl (fun hg16 => ?_) (fun hg16 => ?_)
  · have hg15 := not_true hg16
    refine WL_no rfl rfl hg16 rfl ?_
    refine WL_no rfl rfl hg16 rfl ?_
    refine WL_no rfl rfl hg16 rfl ?_
    refine WL_no rfl rfl hg16 rfl ?_
    refine WL_q rfl (ev_pick_t rfl hg16 rfl) ?_
    refine WL_q rfl (ev_move rfl) ?_
    refine WL_no rfl rfl rfl rfl ?_
    refine WL_no rfl rfl rfl rfl ?_
    refine WL_no rfl rfl rfl rfl ?_
    refine WL_q rfl (ev_pick_t rfl rfl rfl) ?_
    refine WL_q rfl (ev_move rfl) ?_
    refine WL_no rfl rfl rfl rfl ?_
    refine WL_no rfl rfl rfl rfl ?_
    refine WL_no rfl rfl rfl rfl ?_
    refine WL_q rfl (ev_pick_t rfl rfl rfl) ?_
    refine WL_q rfl (ev_move rfl) ?_
    refine WL_no rfl rfl rfl rfl ?_
    refine WL_no rfl rfl rfl rfl ?_
    refine WL_no rfl rfl rfl rfl ?_
    refine WL_q rfl (ev_pick_t rfl rfl rfl) ?_
    refine WL_q rfl (ev_move rfl) ?_
    refine WL_no rfl rfl rfl rfl ?_
    refine WL_no rfl rfl rfl rfl ?_
    refine WL_no rfl rfl rfl rfl ?_
    refine WL_q rfl (ev_pick_t rfl rfl rfl) ?_
    refine WL_q rfl (ev_move rfl) ?_
    refine WL_no rfl rfl rfl rfl ?_
    refine WL_no rfl rfl rfl rfl ?_
    refine WL_no rfl rfl rfl rfl ?_
    refine WL_q rfl (ev_pick_t rfl rfl rfl) ?_
    refine WL_nil ?_
    refine thenE_n ?_
    refine W_cond_t rfl ?_
    refine W_seq ?_
    refine W_region ?_
    refine WL_q rfl (ev_assign rfl) ?_
    refine WL_q rfl (ev_assign rfl) ?_
    refine WL_nil ?_
    refine thenE_n ?_
    refine W_ret ?_
    refine thenE_r ?_
    refine ret2 rfl rfl rfl ?_
    first | (exact ⟨_, _, rfl, .no (fun h => tf hg15 h.1), hE⟩) | (exact ⟨_, _, rfl, .no (fun h => tf hg20 (allR_one.trans h.2.1)), hE⟩) | (exact ⟨_, _, rfl, .no (fun h => tf hg25 h.2.2.1), hE⟩) | (exact ⟨_, _, rfl, .no (fun h => tf hg30 h.2.2.2.1), hE⟩) | (exact ⟨_, _, rfl, .no (fun h => tf hg35 h.2.2.2.2.1), hE⟩) | (exact ⟨_, _, rfl, .no (fun h => by have h9 : (near.length : Int) ≤ 6 := h.2.2.2.2.2.1; omega), hE⟩) | (exact ⟨_, _, rfl, .no (fun h => tf hg45 h.2.2.2.2.2.2), hE⟩) | (exact ⟨_, _, rfl, .yes ⟨hg15, allR_one.symm.trans hg20, hg25, hg30, hg35, (show (near.length : Int) ≤ 6 by omega), hg45⟩ hs55, hE⟩)
  · have hg15 := not_false hg16
    refine WL_qg rfl rfl hg16 rfl (ev_move rfl) ?_
    refine WL_mg rfl rfl hg16 rfl (ev_lit1 Try.underlying23 el3 (by decide) (by decide) rfl rfl) ?_
    rintro _ w19 ⟨rfl, hN19⟩
    have hz19 := hN19.size
    replace hE := hE.trans hN19.ext
    replace hl := hl.ext hN19.ext
    replace hy := hy.ext hN19.ext
    have hB19 := hN19.blk
    refine WL_mg rfl rfl hg16 rfl (ev_call rfl (vaValues_spec _ _ [own] _ (Blk.ints (ys := [own]) hB19 (by simp)) (by simp))) ?_
    rintro _ w20 ⟨rfl, hE20⟩
    have hz20 := hE20.size
    replace hE := hE.trans hE20
    replace hl := hl.ext hE20
    replace hy := hy.ext hE20
    replace hB19 := hB19.ext hE20
    refine WL_qg rfl rfl hg16 rfl (ev_not rfl) ?_
    refine WL_q rfl (ev_pick_f rfl hg16 rfl) ?_
    refine WL_q rfl (ev_move rfl) ?_
    refine WL_splitv (t := 23) rfl (fun hg21 => ?_) (fun hg21 => ?_)
    · have hg20 := not_true hg21
      refine WL_no rfl rfl hg21 rfl ?_
      refine WL_no rfl rfl hg21 rfl ?_
      refine WL_no rfl rfl hg21 rfl ?_
      refine WL_q rfl (ev_pick_t rfl hg21 rfl) ?_
      refine WL_q rfl (ev_move rfl) ?_
      refine WL_no rfl rfl rfl rfl ?_
      refine WL_no rfl rfl rfl rfl ?_
      refine WL_no rfl rfl rfl rfl ?_
      refine WL_q rfl (ev_pick_t rfl rfl rfl) ?_
      refine WL_q rfl (ev_move rfl) ?_
      refine WL_no rfl rfl rfl rfl ?_
      refine WL_no rfl rfl rfl rfl ?_
      refine WL_no rfl rfl rfl rfl ?_
      refine WL_q rfl (ev_pick_t rfl rfl rfl) ?_
      refine WL_q rfl (ev_move rfl) ?_
      refine WL_no rfl rfl rfl rfl ?_
      refine WL_no rfl rfl rfl rfl ?_
      refine WL_no rfl rfl rfl rfl ?_
      refine WL_q rfl (ev_pick_t rfl rfl rfl) ?_
      refine WL_q rfl (ev_move rfl) ?_
      refine WL_no rfl rfl rfl rfl ?_
      refine WL_no rfl rfl rfl rfl ?_
      refine WL_no rfl rfl rfl rfl ?_
      refine WL_q rfl (ev_pick_t rfl rfl rfl) ?_
      refine WL_nil ?_
      refine thenE_n ?_
      refine W_cond_t rfl ?_
      refine W_seq ?_
      refine W_region ?_
      refine WL_q rfl (ev_assign rfl) ?_
      refine WL_q rfl (ev_assign rfl) ?_
      refine WL_nil ?_
      refine thenE_n ?_
      refine W_ret ?_
      refine thenE_r ?_
      refine ret2 rfl rfl rfl ?_
      first | (exact ⟨_, _, rfl, .no (fun h => tf hg15 h.1), hE⟩) | (exact ⟨_, _, rfl, .no (fun h => tf hg20 (allR_one.trans h.2.1)), hE⟩) | (exact ⟨_, _, rfl, .no (fun h => tf hg25 h.2.2.1), hE⟩) | (exact ⟨_, _, rfl, .no (fun h => tf hg30 h.2.2.2.1), hE⟩) | (exact ⟨_, _, rfl, .no (fun h => tf hg35 h.2.2.2.2.1), hE⟩) | (exact ⟨_, _, rfl, .no (fun h => by have h9 : (near.length : Int) ≤ 6 := h.2.2.2.2.2.1; omega), hE⟩) | (exact ⟨_, _, rfl, .no (fun h => tf hg45 h.2.2.2.2.2.2), hE⟩) | (exact ⟨_, _, rfl, .yes ⟨hg15, allR_one.symm.trans hg20, hg25, hg30, hg35, (show (near.length : Int) ≤ 6 by omega), hg45⟩ hs55, hE⟩)
    · have hg20 := not_false hg21
      refine WL_qg rfl rfl hg21 rfl (ev_move rfl) ?_
      refine WL_mg rfl rfl hg21 rfl (ev_call rfl (l1In_spec _ _ _ _)) ?_
      rintro _ _ ⟨rfl, rfl⟩
      refine WL_qg rfl rfl hg21 rfl (ev_not rfl) ?_
      refine WL_q rfl (ev_pick_f rfl hg21 rfl) ?_
      refine WL_q rfl (ev_move rfl) ?_
      refine WL_splitv (t := 28) rfl (fun hg26 => ?_) (fun hg26 => ?_)
      · have hg25 := not_true hg26
        have hp25 := inR_false.1 hg25
        refine WL_no rfl rfl hg26 rfl ?_
        refine WL_no rfl rfl hg26 rfl ?_
        refine WL_no rfl rfl hg26 rfl ?_
        refine WL_q rfl (ev_pick_t rfl hg26 rfl) ?_
        refine WL_q rfl (ev_move rfl) ?_
        refine WL_no rfl rfl rfl rfl ?_
        refine WL_no rfl rfl rfl rfl ?_
        refine WL_no rfl rfl rfl rfl ?_
        refine WL_q rfl (ev_pick_t rfl rfl rfl) ?_
        refine WL_q rfl (ev_move rfl) ?_
        refine WL_no rfl rfl rfl rfl ?_
        refine WL_no rfl rfl rfl rfl ?_
        refine WL_no rfl rfl rfl rfl ?_
        refine WL_q rfl (ev_pick_t rfl rfl rfl) ?_
        refine WL_q rfl (ev_move rfl) ?_
        refine WL_no rfl rfl rfl rfl ?_
        refine WL_no rfl rfl rfl rfl ?_
        refine WL_no rfl rfl rfl rfl ?_
        refine WL_q rfl (ev_pick_t rfl rfl rfl) ?_
        refine WL_nil ?_
        refine thenE_n ?_
        refine W_cond_t rfl ?_
        refine W_seq ?_
        refine W_region ?_
        refine WL_q rfl (ev_assign rfl) ?_
        refine WL_q rfl (ev_assign rfl) ?_
        refine WL_nil ?_
        refine thenE_n ?_
        refine W_ret ?_
        refine thenE_r ?_
        refine ret2 rfl rfl rfl ?_
        first | (exact ⟨_, _, rfl, .no (fun h => tf hg15 h.1), hE⟩) | (exact ⟨_, _, rfl, .no (fun h => tf hg20 (allR_one.trans h.2.1)), hE⟩) | (exact ⟨_, _, rfl, .no (fun h => tf hg25 h.2.2.1), hE⟩) | (exact ⟨_, _, rfl, .no (fun h => tf hg30 h.2.2.2.1), hE⟩) | (exact ⟨_, _, rfl, .no (fun h => tf hg35 h.2.2.2.2.1), hE⟩) | (exact ⟨_, _, rfl, .no (fun h => by have h9 : (near.length : Int) ≤ 6 := h.2.2.2.2.2.1; omega), hE⟩) | (exact ⟨_, _, rfl, .no (fun h => tf hg45 h.2.2.2.2.2.2), hE⟩) | (exact ⟨_, _, rfl, .yes ⟨hg15, allR_one.symm.trans hg20, hg25, hg30, hg35, (show (near.length : Int) ≤ 6 by omega), hg45⟩ hs55, hE⟩)
      · have hg25 := not_false hg26
        have hp25 := inR_true.1 hg25
        refine WL_qg rfl rfl hg26 rfl (ev_move rfl) ?_
        refine WL_mg rfl rfl hg26 rfl (ev_call rfl (l1In_spec _ _ _ _)) ?_
        rintro _ _ ⟨rfl, rfl⟩
        refine WL_qg rfl rfl hg26 rfl (ev_not rfl) ?_
        refine WL_q rfl (ev_pick_f rfl hg26 rfl) ?_
        refine WL_q rfl (ev_move rfl) ?_
        refine WL_splitv (t := 33) rfl (fun hg31 => ?_) (fun hg31 => ?_)
        · have hg30 := not_true hg31
          have hp30 := inR_false.1 hg30
          refine WL_no rfl rfl hg31 rfl ?_
          refine WL_no rfl rfl hg31 rfl ?_
          refine WL_no rfl rfl hg31 rfl ?_
          refine WL_q rfl (ev_pick_t rfl hg31 rfl) ?_
          refine WL_q rfl (ev_move rfl) ?_
          refine WL_no rfl rfl rfl rfl ?_
          refine WL_no rfl rfl rfl rfl ?_
          refine WL_no rfl rfl rfl rfl ?_
          refine WL_q rfl (ev_pick_t rfl rfl rfl) ?_
          refine WL_q rfl (ev_move rfl) ?_
          refine WL_no rfl rfl rfl rfl ?_
          refine WL_no rfl rfl rfl rfl ?_
          refine WL_no rfl rfl rfl rfl ?_
          refine WL_q rfl (ev_pick_t rfl rfl rfl) ?_
          refine WL_nil ?_
          refine thenE_n ?_
          refine W_cond_t rfl ?_
          refine W_seq ?_
          refine W_region ?_
          refine WL_q rfl (ev_assign rfl) ?_
          refine WL_q rfl (ev_assign rfl) ?_
          refine WL_nil ?_
          refine thenE_n ?_
          refine W_ret ?_
          refine thenE_r ?_
          refine ret2 rfl rfl rfl ?_
          first | (exact ⟨_, _, rfl, .no (fun h => tf hg15 h.1), hE⟩) | (exact ⟨_, _, rfl, .no (fun h => tf hg20 (allR_one.trans h.2.1)), hE⟩) | (exact ⟨_, _, rfl, .no (fun h => tf hg25 h.2.2.1), hE⟩) | (exact ⟨_, _, rfl, .no (fun h => tf hg30 h.2.2.2.1), hE⟩) | (exact ⟨_, _, rfl, .no (fun h => tf hg35 h.2.2.2.2.1), hE⟩) | (exact ⟨_, _, rfl, .no (fun h => by have h9 : (near.length : Int) ≤ 6 := h.2.2.2.2.2.1; omega), hE⟩) | (exact ⟨_, _, rfl, .no (fun h => tf hg45 h.2.2.2.2.2.2), hE⟩) | (exact ⟨_, _, rfl, .yes ⟨hg15, allR_one.symm.trans hg20, hg25, hg30, hg35, (show (near.length : Int) ≤ 6 by omega), hg45⟩ hs55, hE⟩)
        · have hg30 := not_false hg31
          have hp30 := inR_true.1 hg30
          refine WL_qg rfl rfl hg31 rfl (ev_move rfl) ?_
          refine WL_mg rfl rfl hg31 rfl (ev_call rfl (l1In_spec _ _ _ _)) ?_
          rintro _ _ ⟨rfl, rfl⟩
          refine WL_qg rfl rfl hg31 rfl (ev_not rfl) ?_
          refine WL_q rfl (ev_pick_f rfl hg31 rfl) ?_
          refine WL_q rfl (ev_move rfl) ?_
          refine WL_splitv (t := 38) rfl (fun hg36 => ?_) (fun hg36 => ?_)
          · have hg35 := not_true hg36
            have hp35 := inR_false.1 hg35
            refine WL_no rfl rfl hg36 rfl ?_
            refine WL_no rfl rfl hg36 rfl ?_
            refine WL_no rfl rfl hg36 rfl ?_
            refine WL_q rfl (ev_pick_t rfl hg36 rfl) ?_
            refine WL_q rfl (ev_move rfl) ?_
            refine WL_no rfl rfl rfl rfl ?_
            refine WL_no rfl rfl rfl rfl ?_
            refine WL_no rfl rfl rfl rfl ?_
            refine WL_q rfl (ev_pick_t rfl rfl rfl) ?_
            refine WL_nil ?_
            refine thenE_n ?_
            refine W_cond_t rfl ?_
            refine W_seq ?_
            refine W_region ?_
            refine WL_q rfl (ev_assign rfl) ?_
            refine WL_q rfl (ev_assign rfl) ?_
            refine WL_nil ?_
            refine thenE_n ?_
            refine W_ret ?_
            refine thenE_r ?_
            refine ret2 rfl rfl rfl ?_
            first | (exact ⟨_, _, rfl, .no (fun h => tf hg15 h.1), hE⟩) | (exact ⟨_, _, rfl, .no (fun h => tf hg20 (allR_one.trans h.2.1)), hE⟩) | (exact ⟨_, _, rfl, .no (fun h => tf hg25 h.2.2.1), hE⟩) | (exact ⟨_, _, rfl, .no (fun h => tf hg30 h.2.2.2.1), hE⟩) | (exact ⟨_, _, rfl, .no (fun h => tf hg35 h.2.2.2.2.1), hE⟩) | (exact ⟨_, _, rfl, .no (fun h => by have h9 : (near.length : Int) ≤ 6 := h.2.2.2.2.2.1; omega), hE⟩) | (exact ⟨_, _, rfl, .no (fun h => tf hg45 h.2.2.2.2.2.2), hE⟩) | (exact ⟨_, _, rfl, .yes ⟨hg15, allR_one.symm.trans hg20, hg25, hg30, hg35, (show (near.length : Int) ≤ 6 by omega), hg45⟩ hs55, hE⟩)
          · have hg35 := not_false hg36
            have hp35 := inR_true.1 hg35
            refine WL_qg rfl rfl hg36 rfl (ev_move rfl) ?_
            refine WL_qg rfl rfl hg36 rfl (ev_len Try.underlying23 rfl) ?_
            refine WL_qg rfl rfl hg36 rfl (ev_gtr rfl rfl) ?_
            refine WL_q rfl (ev_pick_f rfl hg36 rfl) ?_
            refine WL_q rfl (ev_move rfl) ?_
            refine WL_splitv (t := 43) rfl (fun hg41 => ?_) (fun hg41 => ?_)
            · have hp41 := of_decide_eq_true hg41
              refine WL_no rfl rfl hg41 rfl ?_
              refine WL_no rfl rfl hg41 rfl ?_
              refine WL_no rfl rfl hg41 rfl ?_
              refine WL_q rfl (ev_pick_t rfl hg41 rfl) ?_
              refine WL_nil ?_
              refine thenE_n ?_
              refine W_cond_t rfl ?_
              refine W_seq ?_
              refine W_region ?_
              refine WL_q rfl (ev_assign rfl) ?_
              refine WL_q rfl (ev_assign rfl) ?_
              refine WL_nil ?_
              refine thenE_n ?_
              refine W_ret ?_
              refine thenE_r ?_
              refine ret2 rfl rfl rfl ?_
              first | (exact ⟨_, _, rfl, .no (fun h => tf hg15 h.1), hE⟩) | (exact ⟨_, _, rfl, .no (fun h => tf hg20 (allR_one.trans h.2.1)), hE⟩) | (exact ⟨_, _, rfl, .no (fun h => tf hg25 h.2.2.1), hE⟩) | (exact ⟨_, _, rfl, .no (fun h => tf hg30 h.2.2.2.1), hE⟩) | (exact ⟨_, _, rfl, .no (fun h => tf hg35 h.2.2.2.2.1), hE⟩) | (exact ⟨_, _, rfl, .no (fun h => by have h9 : (near.length : Int) ≤ 6 := h.2.2.2.2.2.1; omega), hE⟩) | (exact ⟨_, _, rfl, .no (fun h => tf hg45 h.2.2.2.2.2.2), hE⟩) | (exact ⟨_, _, rfl, .yes ⟨hg15, allR_one.symm.trans hg20, hg25, hg30, hg35, (show (near.length : Int) ≤ 6 by omega), hg45⟩ hs55, hE⟩)
            · have hp41 := of_decide_eq_false hg41
              refine WL_qg rfl rfl hg41 rfl (ev_move rfl) ?_
              refine WL_mg rfl rfl hg41 rfl (ev_call rfl (vaValues_spec _ _ near _ hy (by omega))) ?_
              rintro _ w45 ⟨rfl, hE45⟩
              have hz45 := hE45.size
              replace hE := hE.trans hE45
              replace hl := hl.ext hE45
              replace hy := hy.ext hE45
              replace hB19 := hB19.ext hE45
              refine WL_qg rfl rfl hg41 rfl (ev_not rfl) ?_
              refine WL_q rfl (ev_pick_f rfl hg41 rfl) ?_
              refine WL_nil ?_
              refine thenE_n ?_
              refine W_cond rfl (fun hg46 => ?_) (fun hg46 => ?_)
              · have hg45 := not_true hg46
                refine W_seq ?_
                refine W_region ?_
                refine WL_q rfl (ev_assign rfl) ?_
                refine WL_q rfl (ev_assign rfl) ?_
                refine WL_nil ?_
                refine thenE_n ?_
                refine W_ret ?_
                refine thenE_r ?_
                refine ret2 rfl rfl rfl ?_
                first | (exact ⟨_, _, rfl, .no (fun h => tf hg15 h.1), hE⟩) | (exact ⟨_, _, rfl, .no (fun h => tf hg20 (allR_one.trans h.2.1)), hE⟩) | (exact ⟨_, _, rfl, .no (fun h => tf hg25 h.2.2.1), hE⟩) | (exact ⟨_, _, rfl, .no (fun h => tf hg30 h.2.2.2.1), hE⟩) | (exact ⟨_, _, rfl, .no (fun h => tf hg35 h.2.2.2.2.1), hE⟩) | (exact ⟨_, _, rfl, .no (fun h => by have h9 : (near.length : Int) ≤ 6 := h.2.2.2.2.2.1; omega), hE⟩) | (exact ⟨_, _, rfl, .no (fun h => tf hg45 h.2.2.2.2.2.2), hE⟩) | (exact ⟨_, _, rfl, .yes ⟨hg15, allR_one.symm.trans hg20, hg25, hg30, hg35, (show (near.length : Int) ≤ 6 by omega), hg45⟩ hs55, hE⟩)
              · have hg45 := not_false hg46
                refine W_skip ?_
                refine thenE_n ?_
                refine W_seq ?_
                refine W_region ?_
                refine WL_q rfl (ev_move rfl) ?_
                refine WL_q rfl (ev_move rfl) ?_
                refine WL_q rfl (ev_move rfl) ?_
                refine WL_q rfl (ev_move rfl) ?_
                refine WL_q rfl (ev_move rfl) ?_
                refine WL_q rfl (ev_move rfl) ?_
                refine WL_q rfl (ev_build5 sn90_5 rfl rfl rfl rfl rfl rfl rfl rfl rfl rfl) ?_
                refine WL_m rfl (ev_call rfl (vaEval_spec a0 a1 c0 c1 ⟨own, id, inp, rnd, near⟩ l _ hy hl (by omega) (by omega) (show near.length ≤ 6 by omega) (allR_true.1 hg45) hg15)) ?_
                rintro _ w55 ⟨s55, rfl, hs55, hE55⟩
                have hz55 := hE55.size
                replace hE := hE.trans hE55
                replace hl := hl.ext hE55
                replace hy := hy.ext hE55
                replace hB19 := hB19.ext hE55
                refine WL_q rfl (ev_assign rfl) ?_
                refine WL_q rfl (ev_assign rfl) ?_
                refine WL_nil ?_
                refine thenE_n ?_
                refine W_ret ?_
                refine ret2 rfl rfl rfl ?_
                first | (exact ⟨_, _, rfl, .no (fun h => tf hg15 h.1), hE⟩) | (exact ⟨_, _, rfl, .no (fun h => tf hg20 (allR_one.trans h.2.1)), hE⟩) | (exact ⟨_, _, rfl, .no (fun h => tf hg25 h.2.2.1), hE⟩) | (exact ⟨_, _, rfl, .no (fun h => tf hg30 h.2.2.2.1), hE⟩) | (exact ⟨_, _, rfl, .no (fun h => tf hg35 h.2.2.2.2.1), hE⟩) | (exact ⟨_, _, rfl, .no (fun h => by have h9 : (near.length : Int) ≤ 6 := h.2.2.2.2.2.1; omega), hE⟩) | (exact ⟨_, _, rfl, .no (fun h => tf hg45 h.2.2.2.2.2.2), hE⟩) | (exact ⟨_, _, rfl, .yes ⟨hg15, allR_one.symm.trans hg20, hg25, hg30, hg35, (show (near.length : Int) ≤ 6 by omega), hg45⟩ hs55, hE⟩)

set_option maxHeartbeats 4000000 in
set_option maxRecDepth 100000 in
theorem law_EvalValue (a1 a0 : Option Addr) (c1 c0 : Nat) (l : List (Int × Int)) (own id inp rnd : Int) (near : List Int) (w : World) (hl : Pairs 0 w.heap.size w a1 c1 l) (hy : Ints 0 w.heap.size w a0 c0 near) (hln : (l.length : Int) ≤ 9223372036854775807) (hyn : (near.length : Int) ≤ 9223372036854775807) :
    Fn Try.prog 10 #[.slice a1 l.length c1, VI own, VI id, VI inp, VI rnd, .slice a0 near.length c0] w (fun v w' => v = VB true ∧ Ext w w') := by
  have hE := Ext.refl w
  refine Fn_of Try.func10 rfl rfl (by kernel_rfl) rfl ?_
  refine W_seq ?_
  refine W_region ?_
  refine WL_q rfl (ev_assign rfl) ?_
  refine WL_nil ?_
  refine thenE_n ?_
  refine W_seq ?_
  refine W_seq ?_
  refine W_region ?_
  refine WL_q rfl (ev_move rfl) ?_
  refine WL_q rfl (ev_len Try.underlying23 rfl) ?_
  refine WL_q rfl (ev_gtr rfl rfl) ?_
  refine WL_nil ?_
  refine thenE_n ?_
  refine W_cond rfl (fun hg22 => ?_) (fun hg22 => ?_)
  · have hp22 := of_decide_eq_true hg22
    refine W_seq ?_
    refine W_region ?_
    refine WL_q rfl (ev_assign rfl) ?_
    refine WL_nil ?_
    refine thenE_n ?_
    refine W_ret ?_
    refine thenE_r ?_
    refine ret1 rfl rfl ?_
    first | (exact ⟨rfl, hE⟩) | (exact (tfX hg22).elim) | (exact (decF hg22).elim) | (exfalso; omega)
  · have hp22 := of_decide_eq_false hg22
    refine W_skip ?_
    refine thenE_n ?_
    refine W_seq ?_
    refine W_region ?_
    refine WL_q rfl (ev_assign rfl) ?_
    refine WL_nil ?_
    refine thenE_n ?_
    refine W_seq ?_
    refine W_region ?_
    refine WL_q rfl (ev_move rfl) ?_
    refine WL_q rfl (ev_move rfl) ?_
    refine WL_m rfl (ev_call rfl (szValueOpS_spec _ _ _ _ _ (by omega) (by omega))) ?_
    rintro _ _ ⟨rfl, rfl⟩
    refine WL_q rfl (ev_assign rfl) ?_
    refine WL_nil ?_
    refine thenE_n ?_
    refine W_seq ?_
    refine W_seq ?_
    refine W_region ?_
    refine WL_q rfl (ev_move rfl) ?_
    refine WL_q rfl (ev_lss rfl rfl) ?_
    refine WL_nil ?_
    refine thenE_n ?_
    refine W_cond rfl (fun hg27 => ?_) (fun hg27 => ?_)
    · have hp27 := of_decide_eq_true hg27
      refine W_seq ?_
      refine W_region ?_
      refine WL_q rfl (ev_assign rfl) ?_
      refine WL_nil ?_
      refine thenE_n ?_
      refine W_ret ?_
      refine thenE_r ?_
      refine ret1 rfl rfl ?_
      first | (exact ⟨rfl, hE⟩) | (exact (tfX hg27).elim) | (exact (decF hg27).elim) | (exfalso; omega)
    · have hp27 := of_decide_eq_false hg27
      have hn2 := sz_le hp27
      refine W_skip ?_
      refine thenE_n ?_
      refine W_seq ?_
      refine W_region ?_
      refine WL_q rfl (ev_move rfl) ?_
      refine WL_m rfl (ev_call rfl (toValueOpS_spec _ _ _ _ (by assumption) (by omega) (by omega))) ?_
      rintro _ w30 ⟨b30, rfl, hb30, hb30B, hE30⟩
      have hz30 := hE30.size
      replace hE := hE.trans hE30
      replace hl := hl.ext hE30
      replace hy := hy.ext hE30
      have hlt30 := hb30B.lt
      have hP30 := hb30B.pairs (Nat.le_refl _)
      refine WL_q rfl (ev_move rfl) ?_
      refine WL_q rfl (ev_move rfl) ?_
      refine WL_q rfl (ev_move rfl) ?_
      refine WL_q rfl (ev_move rfl) ?_
      refine WL_q rfl (ev_move rfl) ?_
      refine WL_m rfl (ev_call rfl (toIntS_spec _ _ near _ hy (by omega) (by omega))) ?_
      rintro _ w36 ⟨a36, rfl, hF36, hE36⟩
      have hz36 := hE36.size
      replace hE := hE.trans hE36
      replace hl := hl.ext hE36
      replace hy := hy.ext hE36
      replace hb30B := hb30B.ext hE36
      replace hP30 := hP30.ext hE36
      have hI36 := hF36.is
      refine WL_m rfl (ev_call rfl (sEvalValue_spec _ _ _ _ _ _ _ _ _ near _ (by assumption) hI36 (by omega) (by omega) (by omega) (by omega))) ?_
      rintro _ w37 ⟨r37, q37, rfl, hr37, hE37⟩
      have hz37 := hE37.size
      replace hE := hE.trans hE37
      replace hl := hl.ext hE37
      replace hy := hy.ext hE37
      replace hb30B := hb30B.ext hE37
      replace hP30 := hP30.ext hE37
      replace hF36 := hF36.ext hE37
      replace hI36 := hI36.ext hE37
      refine WL_q rfl (ev_move rfl) ?_
      refine WL_q rfl (ev_extract rfl rfl) ?_
      refine WL_q rfl (ev_extract rfl rfl) ?_
      refine WL_q rfl (ev_assign rfl) ?_
      refine WL_q rfl (ev_assign rfl) ?_
      refine WL_nil ?_
      refine thenE_n ?_
      refine W_seq ?_
      refine W_region ?_
      refine WL_q rfl (ev_move rfl) ?_
      refine WL_m rfl (ev_call rfl (toValueOpS_spec _ _ _ _ (by assumption) (by omega) (by omega))) ?_
      rintro _ w41 ⟨b41, rfl, hb41, hb41B, hE41⟩
      have hz41 := hE41.size
      replace hE := hE.trans hE41
      replace hl := hl.ext hE41
      replace hy := hy.ext hE41
      replace hb30B := hb30B.ext hE41
      replace hP30 := hP30.ext hE41
      replace hF36 := hF36.ext hE41
      replace hI36 := hI36.ext hE41
      have hlt41 := hb41B.lt
      have hP41 := hb41B.pairs (Nat.le_refl _)
      refine WL_q rfl (ev_assign rfl) ?_
      refine WL_nil ?_
      refine thenE_n ?_
      refine W_seq ?_
      refine W_region ?_
      refine WL_q rfl (ev_move rfl) ?_
      refine WL_m rfl (ev_call rfl (toIntS_spec _ _ near _ hy (by omega) (by omega))) ?_
      rintro _ w43 ⟨a43, rfl, hF43, hE43⟩
      have hz43 := hE43.size
      replace hE := hE.trans hE43
      replace hl := hl.ext hE43
      replace hy := hy.ext hE43
      replace hb30B := hb30B.ext hE43
      replace hP30 := hP30.ext hE43
      replace hF36 := hF36.ext hE43
      replace hI36 := hI36.ext hE43
      replace hb41B := hb41B.ext hE43
      replace hP41 := hP41.ext hE43
      have hI43 := hF43.is
      refine WL_q rfl (ev_assign rfl) ?_
      refine WL_nil ?_
      refine thenE_n ?_
      refine W_seq ?_
      refine W_region ?_
      refine WL_q rfl (ev_move rfl) ?_
      refine WL_q rfl (ev_move rfl) ?_
      refine WL_q rfl (ev_move rfl) ?_
      refine WL_q rfl (ev_move rfl) ?_
      refine WL_q rfl (ev_move rfl) ?_
      refine WL_q rfl (ev_move rfl) ?_
      refine WL_m rfl (ev_call rfl (EvalValue_spec _ _ _ _ _ _ _ _ _ near _ (by assumption) hI43 (by omega) (by omega) (by omega) (by omega))) ?_
      rintro _ w51 ⟨r51, q51, rfl, hr51, hE51⟩
      have hz51 := hE51.size
      replace hE := hE.trans hE51
      replace hl := hl.ext hE51
      replace hy := hy.ext hE51
      replace hb30B := hb30B.ext hE51
      replace hP30 := hP30.ext hE51
      replace hF36 := hF36.ext hE51
      replace hI36 := hI36.ext hE51
      replace hb41B := hb41B.ext hE51
      replace hP41 := hP41.ext hE51
      replace hF43 := hF43.ext hE51
      replace hI43 := hI43.ext hE51
      refine WL_q rfl (ev_move rfl) ?_
      refine WL_q rfl (ev_extract rfl rfl) ?_
      refine WL_q rfl (ev_extract rfl rfl) ?_
      refine WL_q rfl (ev_assign rfl) ?_
      refine WL_q rfl (ev_assign rfl) ?_
      refine WL_nil ?_
      refine thenE_n ?_
      refine W_seq ?_
      refine W_seq ?_
      refine W_region ?_
      refine WL_q rfl (ev_move rfl) ?_
      refine WL_q rfl (ev_move rfl) ?_
      refine WL_q rfl (ev_neq rfl rfl) ?_
      refine WL_q rfl (ev_move rfl) ?_
      refine WL_splitv (t := 57) rfl (fun hg56 => ?_) (fun hg56 => ?_)
      · have hp56 := of_decide_eq_true hg56
        refine WL_no rfl rfl hg56 rfl ?_
        refine WL_no rfl rfl hg56 rfl ?_
        refine WL_no rfl rfl hg56 rfl ?_
        refine WL_q rfl (ev_pick_t rfl hg56 rfl) ?_
        refine WL_nil ?_
        refine thenE_n ?_
        refine W_cond_t rfl ?_
        refine W_seq ?_
        refine W_region ?_
        refine WL_q rfl (ev_assign rfl) ?_
        refine WL_nil ?_
        refine thenE_n ?_
        refine W_ret ?_
        refine thenE_r ?_
        refine ret1 rfl rfl ?_
        first | (exact ⟨rfl, hE⟩) | (exact (bneE hg56 (hr51.det1 hr37)).elim) | (exact absurd (hr51.det1 hr37) hp56) | (exact absurd (hr51.det1 hr37) (of_decide_eq_false hg56)) | (exact (bneE hg56 (hr51.det2 hr37)).elim) | (exact absurd (hr51.det2 hr37) hp56) | (exact absurd (hr51.det2 hr37) (of_decide_eq_false hg56)) | (exact (bneE hg56 (hr51.det3 hr37)).elim) | (exact absurd (hr51.det3 hr37) hp56) | (exact absurd (hr51.det3 hr37) (of_decide_eq_false hg56)) | (exact (tfX hg56).elim) | (exact (decF hg56).elim) | (exfalso; omega)
      · have hp56 := of_decide_eq_false hg56
        refine WL_qg rfl rfl hg56 rfl (ev_move rfl) ?_
        refine WL_qg rfl rfl hg56 rfl (ev_move rfl) ?_
        refine WL_qg rfl rfl hg56 rfl (ev_neq_b Try.underlying4 rfl rfl) ?_
        refine WL_q rfl (ev_pick_f rfl hg56 rfl) ?_
        refine WL_nil ?_
        refine thenE_n ?_
        refine W_cond rfl (fun hg60 => ?_) (fun hg60 => ?_)
        · refine W_seq ?_
          refine W_region ?_
          refine WL_q rfl (ev_assign rfl) ?_
          refine WL_nil ?_
          refine thenE_n ?_
          refine W_ret ?_
          refine thenE_r ?_
          refine ret1 rfl rfl ?_
          first | (exact ⟨rfl, hE⟩) | (exact (bneE hg60 (hr51.det1 hr37)).elim) | (exact absurd (hr51.det1 hr37) hp60) | (exact absurd (hr51.det1 hr37) (of_decide_eq_false hg60)) | (exact (bneE hg60 (hr51.det2 hr37)).elim) | (exact absurd (hr51.det2 hr37) hp60) | (exact absurd (hr51.det2 hr37) (of_decide_eq_false hg60)) | (exact (bneE hg60 (hr51.det3 hr37)).elim) | (exact absurd (hr51.det3 hr37) hp60) | (exact absurd (hr51.det3 hr37) (of_decide_eq_false hg60)) | (exact (tfX hg60).elim) | (exact (decF hg60).elim) | (exfalso; omega)
        · refine W_skip ?_
          refine thenE_n ?_
          refine W_seq ?_
          refine W_seq ?_
          refine W_region ?_
          refine WL_q rfl (ev_move rfl) ?_
          refine WL_q rfl (ev_move rfl) ?_
          refine WL_m rfl (ev_call rfl (toValueOpS_spec _ _ _ _ (by assumption) (by omega) (by omega))) ?_
          rintro _ w64 ⟨b64, rfl, hb64, hb64B, hE64⟩
          have hz64 := hE64.size
          replace hE := hE.trans hE64
          replace hl := hl.ext hE64
          replace hy := hy.ext hE64
          replace hb30B := hb30B.ext hE64
          replace hP30 := hP30.ext hE64
          replace hF36 := hF36.ext hE64
          replace hI36 := hI36.ext hE64
          replace hb41B := hb41B.ext hE64
          replace hP41 := hP41.ext hE64
          replace hF43 := hF43.ext hE64
          replace hI43 := hI43.ext hE64
          have hlt64 := hb64B.lt
          have hP64 := hb64B.pairs (Nat.le_refl _)
          refine WL_m rfl (ev_call rfl (eqValueOpS_spec _ _ _ _ _ _ _ (by assumption) (by assumption) (by omega))) ?_
          rintro _ w65 ⟨rfl, hE65⟩
          have hz65 := hE65.size
          replace hE := hE.trans hE65
          replace hl := hl.ext hE65
          replace hy := hy.ext hE65
          replace hb30B := hb30B.ext hE65
          replace hP30 := hP30.ext hE65
          replace hF36 := hF36.ext hE65
          replace hI36 := hI36.ext hE65
          replace hb41B := hb41B.ext hE65
          replace hP41 := hP41.ext hE65
          replace hF43 := hF43.ext hE65
          replace hI43 := hI43.ext hE65
          replace hb64B := hb64B.ext hE65
          replace hP64 := hP64.ext hE65
          refine WL_q rfl (ev_not rfl) ?_
          refine WL_nil ?_
          refine thenE_n ?_
          refine W_cond rfl (fun hg66 => ?_) (fun hg66 => ?_)
          · have hg65 := not_true hg66
            refine W_seq ?_
            refine W_region ?_
            refine WL_q rfl (ev_assign rfl) ?_
            refine WL_nil ?_
            refine thenE_n ?_
            refine W_ret ?_
            refine thenE_r ?_
            refine ret1 rfl rfl ?_
            first | (exact ⟨rfl, hE⟩) | (exact (bneE hg65 (hr51.det1 hr37)).elim) | (exact absurd (hr51.det1 hr37) hp65) | (exact absurd (hr51.det1 hr37) (of_decide_eq_false hg65)) | (exact (bneE hg65 (hr51.det2 hr37)).elim) | (exact absurd (hr51.det2 hr37) hp65) | (exact absurd (hr51.det2 hr37) (of_decide_eq_false hg65)) | (exact (bneE hg65 (hr51.det3 hr37)).elim) | (exact absurd (hr51.det3 hr37) hp65) | (exact absurd (hr51.det3 hr37) (of_decide_eq_false hg65)) | (exact (tfX hg65).elim) | (exact (decF hg65).elim) | (exfalso; omega)
          · have hg65 := not_false hg66
            refine W_skip ?_
            refine thenE_n ?_
            refine W_seq ?_
            refine W_seq ?_
            refine W_region ?_
            refine WL_q rfl (ev_move rfl) ?_
            refine WL_q rfl (ev_move rfl) ?_
            refine WL_m rfl (ev_call rfl (toIntS_spec _ _ near _ hy (by omega) (by omega))) ?_
            rintro _ w69 ⟨a69, rfl, hF69, hE69⟩
            have hz69 := hE69.size
            replace hE := hE.trans hE69
            replace hl := hl.ext hE69
            replace hy := hy.ext hE69
            replace hb30B := hb30B.ext hE69
            replace hP30 := hP30.ext hE69
            replace hF36 := hF36.ext hE69
            replace hI36 := hI36.ext hE69
            replace hb41B := hb41B.ext hE69
            replace hP41 := hP41.ext hE69
            replace hF43 := hF43.ext hE69
            replace hI43 := hI43.ext hE69
            replace hb64B := hb64B.ext hE69
            replace hP64 := hP64.ext hE69
            have hI69 := hF69.is
            refine WL_m rfl (ev_call rfl (eqIntS_spec _ _ _ _ near near _ hI43 hI69 (by omega))) ?_
            rintro _ w70 ⟨rfl, hE70⟩
            have hz70 := hE70.size
            replace hE := hE.trans hE70
            replace hl := hl.ext hE70
            replace hy := hy.ext hE70
            replace hb30B := hb30B.ext hE70
            replace hP30 := hP30.ext hE70
            replace hF36 := hF36.ext hE70
            replace hI36 := hI36.ext hE70
            replace hb41B := hb41B.ext hE70
            replace hP41 := hP41.ext hE70
            replace hF43 := hF43.ext hE70
            replace hI43 := hI43.ext hE70
            replace hb64B := hb64B.ext hE70
            replace hP64 := hP64.ext hE70
            replace hF69 := hF69.ext hE70
            replace hI69 := hI69.ext hE70
            refine WL_q rfl (ev_not rfl) ?_
            refine WL_nil ?_
            refine thenE_n ?_
            refine W_cond rfl (fun hg71 => ?_) (fun hg71 => ?_)
            · have hg70 := not_true hg71
              refine W_seq ?_
              refine W_region ?_
              refine WL_q rfl (ev_assign rfl) ?_
              refine WL_nil ?_
              refine thenE_n ?_
              refine W_ret ?_
              refine thenE_r ?_
              refine ret1 rfl rfl ?_
              first | (exact ⟨rfl, hE⟩) | (exact (bneE hg70 (hr51.det1 hr37)).elim) | (exact absurd (hr51.det1 hr37) hp70) | (exact absurd (hr51.det1 hr37) (of_decide_eq_false hg70)) | (exact (bneE hg70 (hr51.det2 hr37)).elim) | (exact absurd (hr51.det2 hr37) hp70) | (exact absurd (hr51.det2 hr37) (of_decide_eq_false hg70)) | (exact (bneE hg70 (hr51.det3 hr37)).elim) | (exact absurd (hr51.det3 hr37) hp70) | (exact absurd (hr51.det3 hr37) (of_decide_eq_false hg70)) | (exact (tfX hg70).elim) | (exact (decF hg70).elim) | (exfalso; omega)
            · have hg70 := not_false hg71
              refine W_skip ?_
              refine thenE_n ?_
              refine W_seq ?_
              refine W_region ?_
              refine WL_q rfl (ev_assign rfl) ?_
              refine WL_nil ?_
              refine thenE_n ?_
              refine W_ret ?_
              refine ret1 rfl rfl ?_
              first | (exact ⟨rfl, hE⟩) | (exact (bneE hg70 (hr51.det1 hr37)).elim) | (exact absurd (hr51.det1 hr37) hp70) | (exact absurd (hr51.det1 hr37) (of_decide_eq_false hg70)) | (exact (bneE hg70 (hr51.det2 hr37)).elim) | (exact absurd (hr51.det2 hr37) hp70) | (exact absurd (hr51.det2 hr37) (of_decide_eq_false hg70)) | (exact (bneE hg70 (hr51.det3 hr37)).elim) | (exact absurd (hr51.det3 hr37) hp70) | (exact absurd (hr51.det3 hr37) (of_decide_eq_false hg70)) | (exact (tfX hg70).elim) | (exact (decF hg70).elim) | (exfalso; omega)

end Go.Proofs.Ytjnkkadbfigmpaa
