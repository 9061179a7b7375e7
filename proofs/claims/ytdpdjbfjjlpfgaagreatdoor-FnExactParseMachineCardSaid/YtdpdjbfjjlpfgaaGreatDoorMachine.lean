/- Contracts of IsMachine, of the program and of the reference, and of what they call. -/
import Derived.Test.YtdpdjbfjjlpfgaaGreatDoorData
import Derived.Test.YtdpdjbfjjlpfgaaGreatDoorLib
namespace Go.Proofs.YtdpdjbfjjlpfgaaGreatDoor
open Go Go.RowKit

def allR (xs : List Int) (lo hi : Int) : Bool := xs.all fun x => inR x lo hi
theorem allR_true {xs : List Int} {lo hi : Int} : allR xs lo hi = true ↔ ∀ x ∈ xs, lo ≤ x ∧ x ≤ hi := by simp [allR, inR]
theorem allR_at {xs : List Int} {lo hi : Int} (h : allR xs lo hi = true) {i : Nat} (hi' : i < xs.length) : lo ≤ xs[i] ∧ xs[i] ≤ hi := allR_true.1 h _ (List.getElem_mem hi')
theorem allR_bad {xs : List Int} {lo hi : Int} {i : Nat} (hi' : i < xs.length) (h : inR xs[i] lo hi = false) : allR xs lo hi = false := by
  simp only [allR, List.all_eq_false]; exact ⟨_, List.getElem_mem hi', by rw [h]; simp⟩
theorem allR_good {xs : List Int} {lo hi : Int} (h : ∀ j (h2 : j < xs.length), inR xs[j] lo hi = true) : allR xs lo hi = true := by
  simp only [allR, List.all_eq_true]
  intro x hx
  obtain ⟨i, hi, rfl⟩ := List.mem_iff_getElem.1 hx
  exact h i hi
theorem allR_any (xs : List Int) (lo hi : Int) : (!(xs.any fun n => !inR n lo hi)) = allR xs lo hi := by simp [allR, List.any_eq_not_all_not]
theorem ffI {p : Prop} (h : ¬ p) : (false = true ↔ p) := ⟨fun e => by simp at e, fun hp => absurd hp h⟩
theorem ttI {p : Prop} (h : p) : (true = true ↔ p) := ⟨fun _ => h, fun _ => rfl⟩
theorem ttN {b : Bool} {p : Prop} (h : b = true ↔ p) (hb : b = false) : ¬ p := fun hp => by rw [h.2 hp] at hb; cases hb
theorem bool_eq_of {a b : Bool} {p : Prop} (h : a = true ↔ p) (k : b = true ↔ p) : a = b := by
  cases a <;> cases b <;> simp_all
theorem bneI {a b : Bool} {p : Prop} (ha : a = true ↔ p) (hb : b = true ↔ p) (h : (a != b) = true) : False := by rw [bool_eq_of ha hb] at h; simp at h

set_option maxRecDepth 100000 in
theorem allWithin_1 (n lo hi : Int) (b1 b2 : Nat) (T1 T2 : TypeId) (w : World) (h1 : Blk w b1 T1 [VI lo]) (h2 : Blk w b2 T2 [VI hi]) :
    Fn Tryz.prog 64 #[VI n, ptr b1 0, ptr b2 0] w (fun v w' => v = VB (!inR n lo hi) ∧ Ext w w') := by
  have hE := Ext.refl w
  refine Fn_of Tryz.func64 rfl rfl (by kernel_rfl) rfl ?_
  refine W_seq ?_
  refine W_region ?_
  refine WL_q rfl (ev_assign rfl) ?_
  refine WL_nil ?_
  refine thenE_n ?_
  refine W_seq ?_
  refine W_region ?_
  refine WL_q rfl (ev_move rfl) ?_
  refine WL_q rfl (ev_load one3 rfl (h1.cell rfl)) ?_
  refine WL_q rfl (ev_load one3 rfl (h2.cell rfl)) ?_
  refine WL_m rfl (ev_call rfl (within_spec _ _ _ _)) ?_
  rintro _ _ ⟨rfl, rfl⟩
  refine WL_q rfl (ev_not rfl) ?_
  refine WL_q rfl (ev_assign rfl) ?_
  refine WL_nil ?_
  refine thenE_n ?_
  refine W_ret ?_
  refine ret1 rfl rfl ?_
  exact ⟨rfl, hE⟩

set_option maxRecDepth 100000 in
theorem allWithin_spec {l r : Nat} (a : Option Addr) (c : Nat) (xs : List Int) (lo hi : Int) (w : World) (hx : Ints l r w a c xs) (hm : (xs.length : Int) < 9223372036854775807) :
    Fn Tryz.prog 49 #[.slice a xs.length c, VI lo, VI hi] w (fun v w' => v = VB (allR xs lo hi) ∧ Ext w w') := by
  have hE := Ext.refl w
  refine Fn_of Tryz.func49 rfl rfl (by kernel_rfl) rfl ?_
  refine W_seq ?_
  refine W_region ?_
  refine WL_m rfl (ev_box rfl) ?_
  rintro _ w4 ⟨rfl, hN4⟩
  have hz4 := hN4.size
  replace hE := hE.trans hN4.ext
  replace hx := hx.ext hN4.ext
  have hB4 : Blk w4 _ _ [_] := hN4.blk
  refine WL_m rfl (ev_box rfl) ?_
  rintro _ w5 ⟨rfl, hN5⟩
  have hz5 := hN5.size
  replace hE := hE.trans hN5.ext
  replace hx := hx.ext hN5.ext
  replace hB4 := hB4.ext hN5.ext
  have hB5 : Blk w5 _ _ [_] := hN5.blk
  refine WL_q rfl (ev_assign rfl) ?_
  refine WL_nil ?_
  refine thenE_n ?_
  refine W_seq ?_
  refine W_region ?_
  refine WL_q rfl (ev_move rfl) ?_
  refine WL_q rfl (ev_makeFunc rfl rfl) ?_
  refine WL_m rfl (ev_call rfl (ContainsFunc_int _ _ xs _ _ (fun n => !inR n lo hi) _ hx (by omega) (fun i h w1 hw => allWithin_1 _ lo hi _ _ _ _ w1 (hB4.ext hw) (hB5.ext hw)))) ?_
  rintro _ w9 ⟨rfl, hE9⟩
  have hz9 := hE9.size
  replace hE := hE.trans hE9
  replace hx := hx.ext hE9
  replace hB4 := hB4.ext hE9
  replace hB5 := hB5.ext hE9
  refine WL_q rfl (ev_not rfl) ?_
  refine WL_q rfl (ev_assign rfl) ?_
  refine WL_nil ?_
  refine thenE_n ?_
  refine W_ret ?_
  refine ret1 rfl rfl ?_
  exact ⟨vb (allR_any _ _ _), hE⟩

set_option maxRecDepth 100000 in
theorem l1All_spec {l r : Nat} (a : Option Addr) (c : Nat) (xs : List Int) (lo hi : Int) (w : World) (hx : Ints l r w a c xs) (hm : (xs.length : Int) < 9223372036854775807) :
    Fn Tryz.prog 28 #[.slice a xs.length c, VI lo, VI hi] w (fun v w' => v = VB (allR xs lo hi) ∧ Ext w w') := by
  have hE := Ext.refl w
  refine Fn_of Tryz.func28 rfl rfl (by kernel_rfl) rfl ?_
  refine W_seq ?_
  refine W_region ?_
  refine WL_q rfl (ev_assign rfl) ?_
  refine WL_nil ?_
  refine thenE_n ?_
  refine W_seq ?_
  refine W_seq ?_
  refine W_region ?_
  refine WL_q rfl (ev_move rfl) ?_
  refine WL_q rfl (ev_len Tryz.underlying24 rfl) ?_
  refine WL_q rfl (ev_move rfl) ?_
  refine WL_nil ?_
  refine thenE_n ?_
  refine W_block ?_
  refine W_loopC (G := Nat) [(1, _), (2, _), (9, _), (10, _)] ((Subs.c rfl (Subs.c rfl (Subs.c rfl (Subs.c rfl Subs.n))))) (fun i => [(11, VI (i : Int))]) (fun i w' => Ext w w' ∧ i ≤ xs.length ∧ ∀ j (_h : j < i) (h2 : j < xs.length), inR xs[j] lo hi = true) (fun i => xs.length - i) 0 ((Subs.c (lkI rfl (by omega)) Subs.n)) (⟨Ext.refl _, ⟨by omega, fun j h => by omega⟩⟩) ?_
  rintro i wL0 ⟨hRL0, hi', hJ⟩
  have hzL0 := hRL0.size
  replace hE := hE.trans hRL0
  replace hx := hx.ext hRL0
  refine W_seq ?_
  refine W_region ?_
  refine WL_q rfl (ev_lss rfl rfl) ?_
  refine WL_nil ?_
  refine thenE_n ?_
  refine W_seq ?_
  refine W_cond rfl (fun hg12 => ?_) (fun hg12 => ?_)
  · have hp12 := of_decide_eq_true hg12
    refine W_skip ?_
    refine thenE_n ?_
    refine W_seq ?_
    refine W_block ?_
    refine W_seq ?_
    refine W_region ?_
    refine WL_q rfl (ev_indexAddr Tryz.underlying24 sz3 rfl rfl (hx.isSome (by omega)) (by omega) (by omega)) ?_
    refine WL_q rfl (ev_load one3 rfl (hx.cell (i := i) (by omega))) ?_
    refine WL_q rfl (ev_assign rfl) ?_
    refine WL_nil ?_
    refine thenE_n ?_
    refine W_seq ?_
    refine W_region ?_
    refine WL_q rfl (ev_move rfl) ?_
    refine WL_q rfl (ev_move rfl) ?_
    refine WL_q rfl (ev_move rfl) ?_
    refine WL_m rfl (ev_call rfl (l1In_spec _ _ _ _)) ?_
    rintro _ _ ⟨rfl, rfl⟩
    refine WL_q rfl (ev_not rfl) ?_
    refine WL_nil ?_
    refine thenE_n ?_
    refine W_cond rfl (fun hg19 => ?_) (fun hg19 => ?_)
    · have hg18 := not_true hg19
      have hp18 := inR_false.1 hg18
      refine W_seq ?_
      refine W_region ?_
      refine WL_q rfl (ev_assign rfl) ?_
      refine WL_nil ?_
      refine thenE_n ?_
      refine W_ret ?_
      refine blockE_r ?_
      refine thenE_r ?_
      refine thenE_r ?_
      refine blockE_r ?_
      refine thenE_r ?_
      refine ret1 rfl rfl ?_
      first | exact ⟨vb (allR_bad (by omega) hg18).symm, hE⟩ | exact ⟨vb (allR_good fun j h2 => hJ j (by omega) h2).symm, hE⟩
    · have hg18 := not_false hg19
      have hp18 := inR_true.1 hg18
      refine W_skip ?_
      refine blockE_n ?_
      refine thenE_n ?_
      refine W_region ?_
      refine WL_q rfl (ev_add rfl rfl (by omega)) ?_
      refine WL_q rfl (ev_move rfl) ?_
      refine WL_nil ?_
      refine thenE_n ?_
      exact ⟨i + 1, (Subs.c rfl (Subs.c rfl (Subs.c rfl (Subs.c rfl Subs.n)))), (Subs.c (lkI rfl (by omega)) Subs.n), ⟨hRL0, ⟨by omega, fun j h1 h2 => by
    by_cases hj : j = i
    · subst hj; exact hg18
    · exact hJ j (by omega) h2⟩⟩, by first | omega | (dsimp only; omega)⟩
  · have hp12 := of_decide_eq_false hg12
    refine W_exit ?_
    refine thenE_x ?_
    refine thenE_x ?_
    refine blockE_hit ?_
    refine thenE_n ?_
    refine W_seq ?_
    refine W_region ?_
    refine WL_q rfl (ev_assign rfl) ?_
    refine WL_nil ?_
    refine thenE_n ?_
    refine W_ret ?_
    refine ret1 rfl rfl ?_
    first | exact ⟨vb (allR_bad (by omega) hg18).symm, hE⟩ | exact ⟨vb (allR_good fun j h2 => hJ j (by omega) h2).symm, hE⟩

set_option maxRecDepth 100000 in
theorem maRow_spec {l r : Nat} (a : Option Addr) (c : Nat) (xs : List Int) (k n : Int) (w : World) (hx : Ints l r w a c xs) (hm : (xs.length : Int) < 9223372036854775807) (hn : 0 ≤ n ∧ n ≤ 1000) :
    Fn Tryz.prog 29 #[.slice a xs.length c, VI k, VI n] w (fun v w' => v = VB (decide ((xs.length : Int) = k) && allR xs 0 (n - 1)) ∧ Ext w w') := by
  have hE := Ext.refl w
  refine Fn_of Tryz.func29 rfl rfl (by kernel_rfl) rfl ?_
  refine W_seq ?_
  refine W_region ?_
  refine WL_q rfl (ev_assign rfl) ?_
  refine WL_nil ?_
  refine thenE_n ?_
  refine W_seq ?_
  refine W_region ?_
  refine WL_q rfl (ev_move rfl) ?_
  refine WL_q rfl (ev_len Tryz.underlying24 rfl) ?_
  refine WL_q rfl (ev_move rfl) ?_
  refine WL_q rfl (ev_eql rfl rfl) ?_
  refine WL_q rfl (ev_move rfl) ?_
  refine WL_splitv (t := 11) rfl (fun hg10 => ?_) (fun hg10 => ?_)
  · have hp10 := of_decide_eq_true hg10
    refine WL_qg rfl rfl hg10 rfl (ev_move rfl) ?_
    refine WL_qg rfl rfl hg10 rfl (ev_move rfl) ?_
    refine WL_qg rfl rfl hg10 rfl (ev_sub rfl rfl (by omega)) ?_
    refine WL_mg rfl rfl hg10 rfl (ev_call rfl (l1All_spec _ _ _ _ _ _ (by assumption) (by omega))) ?_
    rintro _ w15 ⟨rfl, hE15⟩
    have hz15 := hE15.size
    replace hE := hE.trans hE15
    replace hx := hx.ext hE15
    refine WL_q rfl (ev_pick_t rfl hg10 rfl) ?_
    refine WL_q rfl (ev_assign rfl) ?_
    refine WL_nil ?_
    refine thenE_n ?_
    refine W_ret ?_
    refine ret1 rfl rfl ?_
    exact ⟨by simp [hp10], hE⟩
  · have hp10 := of_decide_eq_false hg10
    refine WL_no rfl rfl hg10 rfl ?_
    refine WL_no rfl rfl hg10 rfl ?_
    refine WL_no rfl rfl hg10 rfl ?_
    refine WL_no rfl rfl hg10 rfl ?_
    refine WL_q rfl (ev_pick_f rfl hg10 rfl) ?_
    refine WL_q rfl (ev_assign rfl) ?_
    refine WL_nil ?_
    refine thenE_n ?_
    refine W_ret ?_
    refine ret1 rfl rfl ?_
    exact ⟨by simp [hp10], hE⟩

set_option maxRecDepth 100000 in
theorem hasState_spec (h : MA) (m : Mach) (s : Int) (w : World) (hs : 1 ≤ m.states ∧ m.states ≤ 12) :
    Fn Tryz.prog 50 #[machV h m, VI s] w (fun v w' => v = VB (inR s 0 (m.states - 1)) ∧ Ext w w') := by
  have hE := Ext.refl w
  refine Fn_of Tryz.func50 rfl rfl (by kernel_rfl) rfl ?_
  refine W_seq ?_
  refine W_region ?_
  refine WL_m rfl (ev_box rfl) ?_
  rintro _ w2 ⟨rfl, hN2⟩
  have hz2 := hN2.size
  replace hE := hE.trans hN2.ext
  have hB2 : Blk w2 _ _ [_, _, _, _, _, _, _] := hN2.blk
  refine WL_q rfl (ev_assign rfl) ?_
  refine WL_nil ?_
  refine thenE_n ?_
  refine W_seq ?_
  refine W_region ?_
  refine WL_q rfl (ev_move rfl) ?_
  refine WL_q rfl (ev_fieldAddr fo26_1 rfl) ?_
  refine WL_q rfl (ev_load one3 rfl (hB2.cell rfl)) ?_
  refine WL_q rfl (ev_sub rfl rfl (by omega)) ?_
  refine WL_m rfl (ev_call rfl (within_spec _ _ _ _)) ?_
  rintro _ _ ⟨rfl, rfl⟩
  refine WL_q rfl (ev_assign rfl) ?_
  refine WL_nil ?_
  refine thenE_n ?_
  refine W_ret ?_
  refine ret1 rfl rfl ?_
  exact ⟨rfl, hE⟩

/-- A valid machine. -/
structure MOk (m : Mach) : Prop where
  deg : 0 ≤ m.deg ∧ m.deg ≤ 6
  states : 1 ≤ m.states ∧ m.states ≤ 12
  msgs : 1 ≤ m.msgs ∧ m.msgs ≤ 6
  startLen : (m.start.length : Int) = m.deg + 1
  sendLen : (m.send.length : Int) = m.states
  outLen : (m.output.length : Int) = m.states
  clLen : (m.clauses.length : Int) ≤ 60
  head : 1 ≤ ((m.start.headD []).length : Int) ∧ ((m.start.headD []).length : Int) ≤ 10
  start : ∀ l ∈ m.start, (l.length : Int) = (m.start.headD []).length ∧ allR l 0 (m.states - 1) = true
  send : ∀ l ∈ m.send, (l.length : Int) = m.deg ∧ allR l 0 (m.msgs - 1) = true
  clauses : ∀ c ∈ m.clauses, (0 ≤ c.1 ∧ c.1 ≤ m.states - 1) ∧ (0 ≤ c.2.2 ∧ c.2.2 ≤ m.states - 1) ∧ (c.2.1.length : Int) ≤ m.deg ∧ allR c.2.1 (-1) (m.msgs - 1) = true
  output : allR m.output (-1) 9 = true
theorem tf {b : Bool} (h : b = false) (k : b = true) : False := by rw [h] at k; cases k
theorem and_l {p : Prop} [Decidable p] {b : Bool} (h : (decide p && b) = true) : p := by simp at h; exact h.1
theorem and_r {p : Prop} [Decidable p] {b : Bool} (h : (decide p && b) = true) : b = true := by simp at h; exact h.2
theorem and_f {p : Prop} [Decidable p] {b : Bool} (h : (decide p && b) = false) (hp : p) (hb : b = true) : False := by subst hb; simp [hp] at h
theorem headD_eq {α : Type} {l : List (List α)} (h : 0 < l.length) : l.headD [] = l[0] := by cases l with | nil => simp at h | cons x r => rfl
theorem all_of_idx {α : Type} {l : List α} {p : α → Prop} {i : Nat} (hJ : ∀ j (_h : j < i) (h2 : j < l.length), p l[j]) (hi : l.length ≤ i) : ∀ x ∈ l, p x := by
  intro x hx
  obtain ⟨j, hj, rfl⟩ := List.mem_iff_getElem.1 hx
  exact hJ j (by omega) hj
theorem idx_succ {α : Type} {l : List α} {p : α → Prop} {i : Nat} (hJ : ∀ j (_h : j < i) (h2 : j < l.length), p l[j]) (h : i < l.length) (hp : p l[i]) : ∀ j (_h : j < i + 1) (h2 : j < l.length), p l[j] := by
  intro j h1 h2
  by_cases hj : j = i
  · subst hj; exact hp
  · exact hJ j (by omega) h2

set_option maxRecDepth 100000 in
theorem IsMachine_spec {lo hi : Nat} (h : MA) (m : Mach) (w : World) (hM : IsMach lo hi w h m) (hhi : hi ≤ w.heap.size) (hn : totM m ≤ 1048576) :
    Fn Tryz.prog 38 #[machV h m] w (fun v w' => ∃ b, v = VB b ∧ (b = true ↔ MOk m) ∧ Ext w w') := by
  unfold totM at hn
  have hq1 := totL_len m.start
  have hq2 := totL_len m.send
  have hq3 := totC_len m.clauses
  have hE := Ext.refl w
  refine Fn_of Tryz.func38 rfl rfl (by kernel_rfl) rfl ?_
  refine W_seq ?_
  refine W_region ?_
  refine WL_m rfl (ev_box rfl) ?_
  rintro _ w1 ⟨rfl, hN1⟩
  have hz1 := hN1.size
  replace hE := hE.trans hN1.ext
  replace hM := hM.ext hN1.ext
  have hB1 : Blk w1 _ _ [_, _, _, _, _, _, _] := hN1.blk
  refine WL_q rfl (ev_assign rfl) ?_
  refine WL_nil ?_
  refine thenE_n ?_
  refine W_seq ?_
  refine W_seq ?_
  refine W_region ?_
  refine WL_q rfl (ev_fieldAddr fo26_0 rfl) ?_
  refine WL_q rfl (ev_load one3 rfl (hB1.cell rfl)) ?_
  refine WL_m rfl (ev_call rfl (within_spec _ _ _ _)) ?_
  rintro _ _ ⟨rfl, rfl⟩
  refine WL_q rfl (ev_not rfl) ?_
  refine WL_q rfl (ev_move rfl) ?_
  refine WL_splitv (t := 13) rfl (fun hg12 => ?_) (fun hg12 => ?_)
  · have hg11 := not_true hg12
    have hp11 := inR_false.1 hg11
    refine WL_no rfl rfl hg12 rfl ?_
    refine WL_no rfl rfl hg12 rfl ?_
    refine WL_no rfl rfl hg12 rfl ?_
    refine WL_no rfl rfl hg12 rfl ?_
    refine WL_q rfl (ev_pick_t rfl hg12 rfl) ?_
    refine WL_q rfl (ev_move rfl) ?_
    refine WL_no rfl rfl rfl rfl ?_
    refine WL_no rfl rfl rfl rfl ?_
    refine WL_no rfl rfl rfl rfl ?_
    refine WL_no rfl rfl rfl rfl ?_
    refine WL_q rfl (ev_pick_t rfl rfl rfl) ?_
    refine WL_nil ?_
    refine thenE_n ?_
    refine W_cond_t rfl ?_
    refine W_seq ?_
    refine W_region ?_
    refine WL_q rfl (ev_assign rfl) ?_
    refine WL_nil ?_
    refine thenE_n ?_
    refine W_ret ?_
    refine thenE_r ?_
    refine ret1 rfl rfl ?_
    first | (exact ⟨false, rfl, ffI fun hk => by obtain ⟨k1, k2, k3, k4, k5, k6, k7, k8, k9, k10, k11, k12⟩ := hk; omega, hE⟩) | (refine ⟨false, rfl, ffI fun hk => ?_, hE⟩; have h0 := headD_eq (show 0 < m.start.length by omega); have k8 := hk.head; obtain ⟨k, k1⟩ := hk.start _ (List.getElem_mem (show i < m.start.length by omega)); rw [h0] at k k8; first | omega | exact tf hg80 k1) | (refine ⟨false, rfl, ffI fun hk => ?_, hE⟩; obtain ⟨k, k1⟩ := hk.send _ (List.getElem_mem (show k < m.send.length by omega)); first | omega | exact tf hg101 k1) | (refine ⟨false, rfl, ffI fun hk => ?_, hE⟩; obtain ⟨k, k0, k3, k1⟩ := hk.clauses _ (List.getElem_mem (show q < m.clauses.length by omega)); first | omega | exact tf hg138 k1) | (refine ⟨_, rfl, ⟨fun ho => ⟨hp11, hp16, hp22, by omega, by omega, by omega, by omega, ?_, fun l hl => ⟨(all_of_idx (p := fun l : List Int => (l.length : Int) = (m.start.headD []).length ∧ (1 ≤ (l.length : Int) ∧ (l.length : Int) ≤ 10) ∧ allR l 0 (m.states - 1) = true) hJ1 (by omega) l hl).1, (all_of_idx (p := fun l : List Int => (l.length : Int) = (m.start.headD []).length ∧ (1 ≤ (l.length : Int) ∧ (l.length : Int) ≤ 10) ∧ allR l 0 (m.states - 1) = true) hJ1 (by omega) l hl).2.2⟩, all_of_idx (p := fun l : List Int => (l.length : Int) = m.deg ∧ allR l 0 (m.msgs - 1) = true) hJ2 (by omega), all_of_idx (p := fun c : Cl => (0 ≤ c.1 ∧ c.1 ≤ m.states - 1) ∧ (0 ≤ c.2.2 ∧ c.2.2 ≤ m.states - 1) ∧ (c.2.1.length : Int) ≤ m.deg ∧ allR c.2.1 (-1) (m.msgs - 1) = true) hJ3 (by omega), ho⟩, fun hk => hk.output⟩, hE⟩; rw [headD_eq (by omega)]; exact (hJ1 0 (by omega) (by omega)).2.1)
  · have hg11 := not_false hg12
    have hp11 := inR_true.1 hg11
    refine WL_qg rfl rfl hg12 rfl (ev_fieldAddr fo26_1 rfl) ?_
    refine WL_qg rfl rfl hg12 rfl (ev_load one3 rfl (hB1.cell rfl)) ?_
    refine WL_mg rfl rfl hg12 rfl (ev_call rfl (within_spec _ _ _ _)) ?_
    rintro _ _ ⟨rfl, rfl⟩
    refine WL_qg rfl rfl hg12 rfl (ev_not rfl) ?_
    refine WL_q rfl (ev_pick_f rfl hg12 rfl) ?_
    refine WL_q rfl (ev_move rfl) ?_
    refine WL_splitv (t := 19) rfl (fun hg17 => ?_) (fun hg17 => ?_)
    · have hg16 := not_true hg17
      have hp16 := inR_false.1 hg16
      refine WL_no rfl rfl hg17 rfl ?_
      refine WL_no rfl rfl hg17 rfl ?_
      refine WL_no rfl rfl hg17 rfl ?_
      refine WL_no rfl rfl hg17 rfl ?_
      refine WL_q rfl (ev_pick_t rfl hg17 rfl) ?_
      refine WL_nil ?_
      refine thenE_n ?_
      refine W_cond_t rfl ?_
      refine W_seq ?_
      refine W_region ?_
      refine WL_q rfl (ev_assign rfl) ?_
      refine WL_nil ?_
      refine thenE_n ?_
      refine W_ret ?_
      refine thenE_r ?_
      refine ret1 rfl rfl ?_
      first | (exact ⟨false, rfl, ffI fun hk => by obtain ⟨k1, k2, k3, k4, k5, k6, k7, k8, k9, k10, k11, k12⟩ := hk; omega, hE⟩) | (refine ⟨false, rfl, ffI fun hk => ?_, hE⟩; have h0 := headD_eq (show 0 < m.start.length by omega); have k8 := hk.head; obtain ⟨k, k1⟩ := hk.start _ (List.getElem_mem (show i < m.start.length by omega)); rw [h0] at k k8; first | omega | exact tf hg80 k1) | (refine ⟨false, rfl, ffI fun hk => ?_, hE⟩; obtain ⟨k, k1⟩ := hk.send _ (List.getElem_mem (show k < m.send.length by omega)); first | omega | exact tf hg101 k1) | (refine ⟨false, rfl, ffI fun hk => ?_, hE⟩; obtain ⟨k, k0, k3, k1⟩ := hk.clauses _ (List.getElem_mem (show q < m.clauses.length by omega)); first | omega | exact tf hg138 k1) | (refine ⟨_, rfl, ⟨fun ho => ⟨hp11, hp16, hp22, by omega, by omega, by omega, by omega, ?_, fun l hl => ⟨(all_of_idx (p := fun l : List Int => (l.length : Int) = (m.start.headD []).length ∧ (1 ≤ (l.length : Int) ∧ (l.length : Int) ≤ 10) ∧ allR l 0 (m.states - 1) = true) hJ1 (by omega) l hl).1, (all_of_idx (p := fun l : List Int => (l.length : Int) = (m.start.headD []).length ∧ (1 ≤ (l.length : Int) ∧ (l.length : Int) ≤ 10) ∧ allR l 0 (m.states - 1) = true) hJ1 (by omega) l hl).2.2⟩, all_of_idx (p := fun l : List Int => (l.length : Int) = m.deg ∧ allR l 0 (m.msgs - 1) = true) hJ2 (by omega), all_of_idx (p := fun c : Cl => (0 ≤ c.1 ∧ c.1 ≤ m.states - 1) ∧ (0 ≤ c.2.2 ∧ c.2.2 ≤ m.states - 1) ∧ (c.2.1.length : Int) ≤ m.deg ∧ allR c.2.1 (-1) (m.msgs - 1) = true) hJ3 (by omega), ho⟩, fun hk => hk.output⟩, hE⟩; rw [headD_eq (by omega)]; exact (hJ1 0 (by omega) (by omega)).2.1)
    · have hg16 := not_false hg17
      have hp16 := inR_true.1 hg16
      refine WL_qg rfl rfl hg17 rfl (ev_fieldAddr fo26_2 rfl) ?_
      refine WL_qg rfl rfl hg17 rfl (ev_load one3 rfl (hB1.cell rfl)) ?_
      refine WL_mg rfl rfl hg17 rfl (ev_call rfl (within_spec _ _ _ _)) ?_
      rintro _ _ ⟨rfl, rfl⟩
      refine WL_qg rfl rfl hg17 rfl (ev_not rfl) ?_
      refine WL_q rfl (ev_pick_f rfl hg17 rfl) ?_
      refine WL_nil ?_
      refine thenE_n ?_
      refine W_cond rfl (fun hg23 => ?_) (fun hg23 => ?_)
      · have hg22 := not_true hg23
        have hp22 := inR_false.1 hg22
        refine W_seq ?_
        refine W_region ?_
        refine WL_q rfl (ev_assign rfl) ?_
        refine WL_nil ?_
        refine thenE_n ?_
        refine W_ret ?_
        refine thenE_r ?_
        refine ret1 rfl rfl ?_
        first | (exact ⟨false, rfl, ffI fun hk => by obtain ⟨k1, k2, k3, k4, k5, k6, k7, k8, k9, k10, k11, k12⟩ := hk; omega, hE⟩) | (refine ⟨false, rfl, ffI fun hk => ?_, hE⟩; have h0 := headD_eq (show 0 < m.start.length by omega); have k8 := hk.head; obtain ⟨k, k1⟩ := hk.start _ (List.getElem_mem (show i < m.start.length by omega)); rw [h0] at k k8; first | omega | exact tf hg80 k1) | (refine ⟨false, rfl, ffI fun hk => ?_, hE⟩; obtain ⟨k, k1⟩ := hk.send _ (List.getElem_mem (show k < m.send.length by omega)); first | omega | exact tf hg101 k1) | (refine ⟨false, rfl, ffI fun hk => ?_, hE⟩; obtain ⟨k, k0, k3, k1⟩ := hk.clauses _ (List.getElem_mem (show q < m.clauses.length by omega)); first | omega | exact tf hg138 k1) | (refine ⟨_, rfl, ⟨fun ho => ⟨hp11, hp16, hp22, by omega, by omega, by omega, by omega, ?_, fun l hl => ⟨(all_of_idx (p := fun l : List Int => (l.length : Int) = (m.start.headD []).length ∧ (1 ≤ (l.length : Int) ∧ (l.length : Int) ≤ 10) ∧ allR l 0 (m.states - 1) = true) hJ1 (by omega) l hl).1, (all_of_idx (p := fun l : List Int => (l.length : Int) = (m.start.headD []).length ∧ (1 ≤ (l.length : Int) ∧ (l.length : Int) ≤ 10) ∧ allR l 0 (m.states - 1) = true) hJ1 (by omega) l hl).2.2⟩, all_of_idx (p := fun l : List Int => (l.length : Int) = m.deg ∧ allR l 0 (m.msgs - 1) = true) hJ2 (by omega), all_of_idx (p := fun c : Cl => (0 ≤ c.1 ∧ c.1 ≤ m.states - 1) ∧ (0 ≤ c.2.2 ∧ c.2.2 ≤ m.states - 1) ∧ (c.2.1.length : Int) ≤ m.deg ∧ allR c.2.1 (-1) (m.msgs - 1) = true) hJ3 (by omega), ho⟩, fun hk => hk.output⟩, hE⟩; rw [headD_eq (by omega)]; exact (hJ1 0 (by omega) (by omega)).2.1)
      · have hg22 := not_false hg23
        have hp22 := inR_true.1 hg22
        refine W_skip ?_
        refine thenE_n ?_
        refine W_seq ?_
        refine W_seq ?_
        refine W_region ?_
        refine WL_q rfl (ev_fieldAddr fo26_3 rfl) ?_
        refine WL_q rfl (ev_load one22 rfl (hB1.cell rfl)) ?_
        refine WL_q rfl (ev_len Tryz.underlying22 rfl) ?_
        refine WL_q rfl (ev_fieldAddr fo26_0 rfl) ?_
        refine WL_q rfl (ev_load one3 rfl (hB1.cell rfl)) ?_
        refine WL_q rfl (ev_add rfl rfl (by omega)) ?_
        refine WL_q rfl (ev_neq rfl rfl) ?_
        refine WL_q rfl (ev_move rfl) ?_
        refine WL_splitv (t := 32) rfl (fun hg31 => ?_) (fun hg31 => ?_)
        · have hp31 := of_decide_eq_true hg31
          refine WL_no rfl rfl hg31 rfl ?_
          refine WL_no rfl rfl hg31 rfl ?_
          refine WL_no rfl rfl hg31 rfl ?_
          refine WL_no rfl rfl hg31 rfl ?_
          refine WL_no rfl rfl hg31 rfl ?_
          refine WL_no rfl rfl hg31 rfl ?_
          refine WL_q rfl (ev_pick_t rfl hg31 rfl) ?_
          refine WL_q rfl (ev_move rfl) ?_
          refine WL_no rfl rfl rfl rfl ?_
          refine WL_no rfl rfl rfl rfl ?_
          refine WL_no rfl rfl rfl rfl ?_
          refine WL_no rfl rfl rfl rfl ?_
          refine WL_no rfl rfl rfl rfl ?_
          refine WL_no rfl rfl rfl rfl ?_
          refine WL_q rfl (ev_pick_t rfl rfl rfl) ?_
          refine WL_q rfl (ev_move rfl) ?_
          refine WL_no rfl rfl rfl rfl ?_
          refine WL_no rfl rfl rfl rfl ?_
          refine WL_no rfl rfl rfl rfl ?_
          refine WL_no rfl rfl rfl rfl ?_
          refine WL_q rfl (ev_pick_t rfl rfl rfl) ?_
          refine WL_nil ?_
          refine thenE_n ?_
          refine W_cond_t rfl ?_
          refine W_seq ?_
          refine W_region ?_
          refine WL_q rfl (ev_assign rfl) ?_
          refine WL_nil ?_
          refine thenE_n ?_
          refine W_ret ?_
          refine thenE_r ?_
          refine ret1 rfl rfl ?_
          first | (exact ⟨false, rfl, ffI fun hk => by obtain ⟨k1, k2, k3, k4, k5, k6, k7, k8, k9, k10, k11, k12⟩ := hk; omega, hE⟩) | (refine ⟨false, rfl, ffI fun hk => ?_, hE⟩; have h0 := headD_eq (show 0 < m.start.length by omega); have k8 := hk.head; obtain ⟨k, k1⟩ := hk.start _ (List.getElem_mem (show i < m.start.length by omega)); rw [h0] at k k8; first | omega | exact tf hg80 k1) | (refine ⟨false, rfl, ffI fun hk => ?_, hE⟩; obtain ⟨k, k1⟩ := hk.send _ (List.getElem_mem (show k < m.send.length by omega)); first | omega | exact tf hg101 k1) | (refine ⟨false, rfl, ffI fun hk => ?_, hE⟩; obtain ⟨k, k0, k3, k1⟩ := hk.clauses _ (List.getElem_mem (show q < m.clauses.length by omega)); first | omega | exact tf hg138 k1) | (refine ⟨_, rfl, ⟨fun ho => ⟨hp11, hp16, hp22, by omega, by omega, by omega, by omega, ?_, fun l hl => ⟨(all_of_idx (p := fun l : List Int => (l.length : Int) = (m.start.headD []).length ∧ (1 ≤ (l.length : Int) ∧ (l.length : Int) ≤ 10) ∧ allR l 0 (m.states - 1) = true) hJ1 (by omega) l hl).1, (all_of_idx (p := fun l : List Int => (l.length : Int) = (m.start.headD []).length ∧ (1 ≤ (l.length : Int) ∧ (l.length : Int) ≤ 10) ∧ allR l 0 (m.states - 1) = true) hJ1 (by omega) l hl).2.2⟩, all_of_idx (p := fun l : List Int => (l.length : Int) = m.deg ∧ allR l 0 (m.msgs - 1) = true) hJ2 (by omega), all_of_idx (p := fun c : Cl => (0 ≤ c.1 ∧ c.1 ≤ m.states - 1) ∧ (0 ≤ c.2.2 ∧ c.2.2 ≤ m.states - 1) ∧ (c.2.1.length : Int) ≤ m.deg ∧ allR c.2.1 (-1) (m.msgs - 1) = true) hJ3 (by omega), ho⟩, fun hk => hk.output⟩, hE⟩; rw [headD_eq (by omega)]; exact (hJ1 0 (by omega) (by omega)).2.1)
        · have hp31 := of_decide_eq_false hg31
          refine WL_qg rfl rfl hg31 rfl (ev_fieldAddr fo26_4 rfl) ?_
          refine WL_qg rfl rfl hg31 rfl (ev_load one22 rfl (hB1.cell rfl)) ?_
          refine WL_qg rfl rfl hg31 rfl (ev_len Tryz.underlying22 rfl) ?_
          refine WL_qg rfl rfl hg31 rfl (ev_fieldAddr fo26_1 rfl) ?_
          refine WL_qg rfl rfl hg31 rfl (ev_load one3 rfl (hB1.cell rfl)) ?_
          refine WL_qg rfl rfl hg31 rfl (ev_neq rfl rfl) ?_
          refine WL_q rfl (ev_pick_f rfl hg31 rfl) ?_
          refine WL_q rfl (ev_move rfl) ?_
          refine WL_splitv (t := 40) rfl (fun hg38 => ?_) (fun hg38 => ?_)
          · have hp38 := of_decide_eq_true hg38
            refine WL_no rfl rfl hg38 rfl ?_
            refine WL_no rfl rfl hg38 rfl ?_
            refine WL_no rfl rfl hg38 rfl ?_
            refine WL_no rfl rfl hg38 rfl ?_
            refine WL_no rfl rfl hg38 rfl ?_
            refine WL_no rfl rfl hg38 rfl ?_
            refine WL_q rfl (ev_pick_t rfl hg38 rfl) ?_
            refine WL_q rfl (ev_move rfl) ?_
            refine WL_no rfl rfl rfl rfl ?_
            refine WL_no rfl rfl rfl rfl ?_
            refine WL_no rfl rfl rfl rfl ?_
            refine WL_no rfl rfl rfl rfl ?_
            refine WL_q rfl (ev_pick_t rfl rfl rfl) ?_
            refine WL_nil ?_
            refine thenE_n ?_
            refine W_cond_t rfl ?_
            refine W_seq ?_
            refine W_region ?_
            refine WL_q rfl (ev_assign rfl) ?_
            refine WL_nil ?_
            refine thenE_n ?_
            refine W_ret ?_
            refine thenE_r ?_
            refine ret1 rfl rfl ?_
            first | (exact ⟨false, rfl, ffI fun hk => by obtain ⟨k1, k2, k3, k4, k5, k6, k7, k8, k9, k10, k11, k12⟩ := hk; omega, hE⟩) | (refine ⟨false, rfl, ffI fun hk => ?_, hE⟩; have h0 := headD_eq (show 0 < m.start.length by omega); have k8 := hk.head; obtain ⟨k, k1⟩ := hk.start _ (List.getElem_mem (show i < m.start.length by omega)); rw [h0] at k k8; first | omega | exact tf hg80 k1) | (refine ⟨false, rfl, ffI fun hk => ?_, hE⟩; obtain ⟨k, k1⟩ := hk.send _ (List.getElem_mem (show k < m.send.length by omega)); first | omega | exact tf hg101 k1) | (refine ⟨false, rfl, ffI fun hk => ?_, hE⟩; obtain ⟨k, k0, k3, k1⟩ := hk.clauses _ (List.getElem_mem (show q < m.clauses.length by omega)); first | omega | exact tf hg138 k1) | (refine ⟨_, rfl, ⟨fun ho => ⟨hp11, hp16, hp22, by omega, by omega, by omega, by omega, ?_, fun l hl => ⟨(all_of_idx (p := fun l : List Int => (l.length : Int) = (m.start.headD []).length ∧ (1 ≤ (l.length : Int) ∧ (l.length : Int) ≤ 10) ∧ allR l 0 (m.states - 1) = true) hJ1 (by omega) l hl).1, (all_of_idx (p := fun l : List Int => (l.length : Int) = (m.start.headD []).length ∧ (1 ≤ (l.length : Int) ∧ (l.length : Int) ≤ 10) ∧ allR l 0 (m.states - 1) = true) hJ1 (by omega) l hl).2.2⟩, all_of_idx (p := fun l : List Int => (l.length : Int) = m.deg ∧ allR l 0 (m.msgs - 1) = true) hJ2 (by omega), all_of_idx (p := fun c : Cl => (0 ≤ c.1 ∧ c.1 ≤ m.states - 1) ∧ (0 ≤ c.2.2 ∧ c.2.2 ≤ m.states - 1) ∧ (c.2.1.length : Int) ≤ m.deg ∧ allR c.2.1 (-1) (m.msgs - 1) = true) hJ3 (by omega), ho⟩, fun hk => hk.output⟩, hE⟩; rw [headD_eq (by omega)]; exact (hJ1 0 (by omega) (by omega)).2.1)
          · have hp38 := of_decide_eq_false hg38
            refine WL_qg rfl rfl hg38 rfl (ev_fieldAddr fo26_6 rfl) ?_
            refine WL_qg rfl rfl hg38 rfl (ev_load one24 rfl (hB1.cell rfl)) ?_
            refine WL_qg rfl rfl hg38 rfl (ev_len Tryz.underlying24 rfl) ?_
            refine WL_qg rfl rfl hg38 rfl (ev_fieldAddr fo26_1 rfl) ?_
            refine WL_qg rfl rfl hg38 rfl (ev_load one3 rfl (hB1.cell rfl)) ?_
            refine WL_qg rfl rfl hg38 rfl (ev_neq rfl rfl) ?_
            refine WL_q rfl (ev_pick_f rfl hg38 rfl) ?_
            refine WL_q rfl (ev_move rfl) ?_
            refine WL_splitv (t := 48) rfl (fun hg46 => ?_) (fun hg46 => ?_)
            · have hp46 := of_decide_eq_true hg46
              refine WL_no rfl rfl hg46 rfl ?_
              refine WL_no rfl rfl hg46 rfl ?_
              refine WL_no rfl rfl hg46 rfl ?_
              refine WL_no rfl rfl hg46 rfl ?_
              refine WL_q rfl (ev_pick_t rfl hg46 rfl) ?_
              refine WL_nil ?_
              refine thenE_n ?_
              refine W_cond_t rfl ?_
              refine W_seq ?_
              refine W_region ?_
              refine WL_q rfl (ev_assign rfl) ?_
              refine WL_nil ?_
              refine thenE_n ?_
              refine W_ret ?_
              refine thenE_r ?_
              refine ret1 rfl rfl ?_
              first | (exact ⟨false, rfl, ffI fun hk => by obtain ⟨k1, k2, k3, k4, k5, k6, k7, k8, k9, k10, k11, k12⟩ := hk; omega, hE⟩) | (refine ⟨false, rfl, ffI fun hk => ?_, hE⟩; have h0 := headD_eq (show 0 < m.start.length by omega); have k8 := hk.head; obtain ⟨k, k1⟩ := hk.start _ (List.getElem_mem (show i < m.start.length by omega)); rw [h0] at k k8; first | omega | exact tf hg80 k1) | (refine ⟨false, rfl, ffI fun hk => ?_, hE⟩; obtain ⟨k, k1⟩ := hk.send _ (List.getElem_mem (show k < m.send.length by omega)); first | omega | exact tf hg101 k1) | (refine ⟨false, rfl, ffI fun hk => ?_, hE⟩; obtain ⟨k, k0, k3, k1⟩ := hk.clauses _ (List.getElem_mem (show q < m.clauses.length by omega)); first | omega | exact tf hg138 k1) | (refine ⟨_, rfl, ⟨fun ho => ⟨hp11, hp16, hp22, by omega, by omega, by omega, by omega, ?_, fun l hl => ⟨(all_of_idx (p := fun l : List Int => (l.length : Int) = (m.start.headD []).length ∧ (1 ≤ (l.length : Int) ∧ (l.length : Int) ≤ 10) ∧ allR l 0 (m.states - 1) = true) hJ1 (by omega) l hl).1, (all_of_idx (p := fun l : List Int => (l.length : Int) = (m.start.headD []).length ∧ (1 ≤ (l.length : Int) ∧ (l.length : Int) ≤ 10) ∧ allR l 0 (m.states - 1) = true) hJ1 (by omega) l hl).2.2⟩, all_of_idx (p := fun l : List Int => (l.length : Int) = m.deg ∧ allR l 0 (m.msgs - 1) = true) hJ2 (by omega), all_of_idx (p := fun c : Cl => (0 ≤ c.1 ∧ c.1 ≤ m.states - 1) ∧ (0 ≤ c.2.2 ∧ c.2.2 ≤ m.states - 1) ∧ (c.2.1.length : Int) ≤ m.deg ∧ allR c.2.1 (-1) (m.msgs - 1) = true) hJ3 (by omega), ho⟩, fun hk => hk.output⟩, hE⟩; rw [headD_eq (by omega)]; exact (hJ1 0 (by omega) (by omega)).2.1)
            · have hp46 := of_decide_eq_false hg46
              refine WL_qg rfl rfl hg46 rfl (ev_fieldAddr fo26_5 rfl) ?_
              refine WL_qg rfl rfl hg46 rfl (ev_load one23 rfl (hB1.cell rfl)) ?_
              refine WL_qg rfl rfl hg46 rfl (ev_len Tryz.underlying23 rfl) ?_
              refine WL_qg rfl rfl hg46 rfl (ev_gtr rfl rfl) ?_
              refine WL_q rfl (ev_pick_f rfl hg46 rfl) ?_
              refine WL_nil ?_
              refine thenE_n ?_
              refine W_cond rfl (fun hg52 => ?_) (fun hg52 => ?_)
              · have hp52 := of_decide_eq_true hg52
                refine W_seq ?_
                refine W_region ?_
                refine WL_q rfl (ev_assign rfl) ?_
                refine WL_nil ?_
                refine thenE_n ?_
                refine W_ret ?_
                refine thenE_r ?_
                refine ret1 rfl rfl ?_
                first | (exact ⟨false, rfl, ffI fun hk => by obtain ⟨k1, k2, k3, k4, k5, k6, k7, k8, k9, k10, k11, k12⟩ := hk; omega, hE⟩) | (refine ⟨false, rfl, ffI fun hk => ?_, hE⟩; have h0 := headD_eq (show 0 < m.start.length by omega); have k8 := hk.head; obtain ⟨k, k1⟩ := hk.start _ (List.getElem_mem (show i < m.start.length by omega)); rw [h0] at k k8; first | omega | exact tf hg80 k1) | (refine ⟨false, rfl, ffI fun hk => ?_, hE⟩; obtain ⟨k, k1⟩ := hk.send _ (List.getElem_mem (show k < m.send.length by omega)); first | omega | exact tf hg101 k1) | (refine ⟨false, rfl, ffI fun hk => ?_, hE⟩; obtain ⟨k, k0, k3, k1⟩ := hk.clauses _ (List.getElem_mem (show q < m.clauses.length by omega)); first | omega | exact tf hg138 k1) | (refine ⟨_, rfl, ⟨fun ho => ⟨hp11, hp16, hp22, by omega, by omega, by omega, by omega, ?_, fun l hl => ⟨(all_of_idx (p := fun l : List Int => (l.length : Int) = (m.start.headD []).length ∧ (1 ≤ (l.length : Int) ∧ (l.length : Int) ≤ 10) ∧ allR l 0 (m.states - 1) = true) hJ1 (by omega) l hl).1, (all_of_idx (p := fun l : List Int => (l.length : Int) = (m.start.headD []).length ∧ (1 ≤ (l.length : Int) ∧ (l.length : Int) ≤ 10) ∧ allR l 0 (m.states - 1) = true) hJ1 (by omega) l hl).2.2⟩, all_of_idx (p := fun l : List Int => (l.length : Int) = m.deg ∧ allR l 0 (m.msgs - 1) = true) hJ2 (by omega), all_of_idx (p := fun c : Cl => (0 ≤ c.1 ∧ c.1 ≤ m.states - 1) ∧ (0 ≤ c.2.2 ∧ c.2.2 ≤ m.states - 1) ∧ (c.2.1.length : Int) ≤ m.deg ∧ allR c.2.1 (-1) (m.msgs - 1) = true) hJ3 (by omega), ho⟩, fun hk => hk.output⟩, hE⟩; rw [headD_eq (by omega)]; exact (hJ1 0 (by omega) (by omega)).2.1)
              · have hp52 := of_decide_eq_false hg52
                refine W_skip ?_
                refine thenE_n ?_
                refine W_seq ?_
                refine W_seq ?_
                refine W_region ?_
                refine WL_q rfl (ev_fieldAddr fo26_3 rfl) ?_
                refine WL_q rfl (ev_load one22 rfl (hB1.cell rfl)) ?_
                refine WL_q rfl (ev_len Tryz.underlying22 rfl) ?_
                refine WL_q rfl (ev_move rfl) ?_
                refine WL_nil ?_
                refine thenE_n ?_
                refine W_block ?_
                refine W_loopC (G := Nat) [(1, _), (55, _), (56, _)] ((Subs.c rfl (Subs.c rfl (Subs.c rfl Subs.n)))) (fun i => [(57, VI (i : Int))]) (fun i w' => Ext w1 w' ∧ i ≤ m.start.length ∧ ∀ j (_h : j < i) (h2 : j < m.start.length), (fun l : List Int => (l.length : Int) = (m.start.headD []).length ∧ (1 ≤ (l.length : Int) ∧ (l.length : Int) ≤ 10) ∧ allR l 0 (m.states - 1) = true) m.start[j]) (fun i => m.start.length - i) 0 ((Subs.c (lkI rfl (by omega)) Subs.n)) (⟨Ext.refl _, ⟨by omega, fun j h => by omega⟩⟩) ?_
                rintro i wL0 ⟨hRL0, hJ1l, hJ1⟩
                have hzL0 := hRL0.size
                replace hE := hE.trans hRL0
                replace hM := hM.ext hRL0
                replace hB1 := hB1.ext hRL0
                refine W_seq ?_
                refine W_region ?_
                refine WL_q rfl (ev_lss rfl rfl) ?_
                refine WL_nil ?_
                refine thenE_n ?_
                refine W_seq ?_
                refine W_cond rfl (fun hg58 => ?_) (fun hg58 => ?_)
                · have hp58 := of_decide_eq_true hg58
                  refine W_skip ?_
                  refine thenE_n ?_
                  refine W_seq ?_
                  refine W_block ?_
                  refine W_seq ?_
                  refine W_region ?_
                  have ht1 := totL_le (show i < m.start.length by omega)
                  obtain ⟨a2, c2, hc2, hr2⟩ := hM.start.row (i := i) (by omega)
                  refine WL_q rfl (ev_indexAddr Tryz.underlying22 sz24 rfl rfl (hM.start.isSome (by omega)) (by omega) (by omega)) ?_
                  refine WL_q rfl (ev_load one24 rfl (hc2)) ?_
                  refine WL_q rfl (ev_assign rfl) ?_
                  refine WL_nil ?_
                  refine thenE_n ?_
                  refine W_seq ?_
                  refine W_region ?_
                  refine WL_q rfl (ev_move rfl) ?_
                  refine WL_q rfl (ev_len Tryz.underlying24 rfl) ?_
                  refine WL_q rfl (ev_fieldAddr fo26_3 rfl) ?_
                  refine WL_q rfl (ev_load one22 rfl (hB1.cell rfl)) ?_
                  obtain ⟨a3, c3, hc3, hr3⟩ := hM.start.row (i := 0) (by omega)
                  refine WL_q rfl (ev_indexAddr Tryz.underlying22 sz24 rfl rfl (hM.start.isSome (by omega)) (by omega) (by omega)) ?_
                  refine WL_q rfl (ev_load one24 rfl (hc3)) ?_
                  refine WL_q rfl (ev_len Tryz.underlying24 rfl) ?_
                  refine WL_q rfl (ev_neq rfl rfl) ?_
                  refine WL_q rfl (ev_move rfl) ?_
                  refine WL_splitv (t := 69) rfl (fun hg68 => ?_) (fun hg68 => ?_)
                  · have hp68 := of_decide_eq_true hg68
                    refine WL_no rfl rfl hg68 rfl ?_
                    refine WL_no rfl rfl hg68 rfl ?_
                    refine WL_no rfl rfl hg68 rfl ?_
                    refine WL_no rfl rfl hg68 rfl ?_
                    refine WL_q rfl (ev_pick_t rfl hg68 rfl) ?_
                    refine WL_q rfl (ev_move rfl) ?_
                    refine WL_no rfl rfl rfl rfl ?_
                    refine WL_no rfl rfl rfl rfl ?_
                    refine WL_no rfl rfl rfl rfl ?_
                    refine WL_no rfl rfl rfl rfl ?_
                    refine WL_no rfl rfl rfl rfl ?_
                    refine WL_no rfl rfl rfl rfl ?_
                    refine WL_q rfl (ev_pick_t rfl rfl rfl) ?_
                    refine WL_nil ?_
                    refine thenE_n ?_
                    refine W_cond_t rfl ?_
                    refine W_seq ?_
                    refine W_region ?_
                    refine WL_q rfl (ev_assign rfl) ?_
                    refine WL_nil ?_
                    refine thenE_n ?_
                    refine W_ret ?_
                    refine blockE_r ?_
                    refine thenE_r ?_
                    refine thenE_r ?_
                    refine blockE_r ?_
                    refine thenE_r ?_
                    refine ret1 rfl rfl ?_
                    first | (exact ⟨false, rfl, ffI fun hk => by obtain ⟨k1, k2, k3, k4, k5, k6, k7, k8, k9, k10, k11, k12⟩ := hk; omega, hE⟩) | (refine ⟨false, rfl, ffI fun hk => ?_, hE⟩; have h0 := headD_eq (show 0 < m.start.length by omega); have k8 := hk.head; obtain ⟨k, k1⟩ := hk.start _ (List.getElem_mem (show i < m.start.length by omega)); rw [h0] at k k8; first | omega | exact tf hg80 k1) | (refine ⟨false, rfl, ffI fun hk => ?_, hE⟩; obtain ⟨k, k1⟩ := hk.send _ (List.getElem_mem (show k < m.send.length by omega)); first | omega | exact tf hg101 k1) | (refine ⟨false, rfl, ffI fun hk => ?_, hE⟩; obtain ⟨k, k0, k3, k1⟩ := hk.clauses _ (List.getElem_mem (show q < m.clauses.length by omega)); first | omega | exact tf hg138 k1) | (refine ⟨_, rfl, ⟨fun ho => ⟨hp11, hp16, hp22, by omega, by omega, by omega, by omega, ?_, fun l hl => ⟨(all_of_idx (p := fun l : List Int => (l.length : Int) = (m.start.headD []).length ∧ (1 ≤ (l.length : Int) ∧ (l.length : Int) ≤ 10) ∧ allR l 0 (m.states - 1) = true) hJ1 (by omega) l hl).1, (all_of_idx (p := fun l : List Int => (l.length : Int) = (m.start.headD []).length ∧ (1 ≤ (l.length : Int) ∧ (l.length : Int) ≤ 10) ∧ allR l 0 (m.states - 1) = true) hJ1 (by omega) l hl).2.2⟩, all_of_idx (p := fun l : List Int => (l.length : Int) = m.deg ∧ allR l 0 (m.msgs - 1) = true) hJ2 (by omega), all_of_idx (p := fun c : Cl => (0 ≤ c.1 ∧ c.1 ≤ m.states - 1) ∧ (0 ≤ c.2.2 ∧ c.2.2 ≤ m.states - 1) ∧ (c.2.1.length : Int) ≤ m.deg ∧ allR c.2.1 (-1) (m.msgs - 1) = true) hJ3 (by omega), ho⟩, fun hk => hk.output⟩, hE⟩; rw [headD_eq (by omega)]; exact (hJ1 0 (by omega) (by omega)).2.1)
                  · have hp68 := of_decide_eq_false hg68
                    refine WL_qg rfl rfl hg68 rfl (ev_move rfl) ?_
                    refine WL_qg rfl rfl hg68 rfl (ev_len Tryz.underlying24 rfl) ?_
                    refine WL_mg rfl rfl hg68 rfl (ev_call rfl (within_spec _ _ _ _)) ?_
                    rintro _ _ ⟨rfl, rfl⟩
                    refine WL_qg rfl rfl hg68 rfl (ev_not rfl) ?_
                    refine WL_q rfl (ev_pick_f rfl hg68 rfl) ?_
                    refine WL_q rfl (ev_move rfl) ?_
                    refine WL_splitv (t := 75) rfl (fun hg73 => ?_) (fun hg73 => ?_)
                    · have hg72 := not_true hg73
                      have hp72 := inR_false.1 hg72
                      refine WL_no rfl rfl hg73 rfl ?_
                      refine WL_no rfl rfl hg73 rfl ?_
                      refine WL_no rfl rfl hg73 rfl ?_
                      refine WL_no rfl rfl hg73 rfl ?_
                      refine WL_no rfl rfl hg73 rfl ?_
                      refine WL_no rfl rfl hg73 rfl ?_
                      refine WL_q rfl (ev_pick_t rfl hg73 rfl) ?_
                      refine WL_nil ?_
                      refine thenE_n ?_
                      refine W_cond_t rfl ?_
                      refine W_seq ?_
                      refine W_region ?_
                      refine WL_q rfl (ev_assign rfl) ?_
                      refine WL_nil ?_
                      refine thenE_n ?_
                      refine W_ret ?_
                      refine blockE_r ?_
                      refine thenE_r ?_
                      refine thenE_r ?_
                      refine blockE_r ?_
                      refine thenE_r ?_
                      refine ret1 rfl rfl ?_
                      first | (exact ⟨false, rfl, ffI fun hk => by obtain ⟨k1, k2, k3, k4, k5, k6, k7, k8, k9, k10, k11, k12⟩ := hk; omega, hE⟩) | (refine ⟨false, rfl, ffI fun hk => ?_, hE⟩; have h0 := headD_eq (show 0 < m.start.length by omega); have k8 := hk.head; obtain ⟨k, k1⟩ := hk.start _ (List.getElem_mem (show i < m.start.length by omega)); rw [h0] at k k8; first | omega | exact tf hg80 k1) | (refine ⟨false, rfl, ffI fun hk => ?_, hE⟩; obtain ⟨k, k1⟩ := hk.send _ (List.getElem_mem (show k < m.send.length by omega)); first | omega | exact tf hg101 k1) | (refine ⟨false, rfl, ffI fun hk => ?_, hE⟩; obtain ⟨k, k0, k3, k1⟩ := hk.clauses _ (List.getElem_mem (show q < m.clauses.length by omega)); first | omega | exact tf hg138 k1) | (refine ⟨_, rfl, ⟨fun ho => ⟨hp11, hp16, hp22, by omega, by omega, by omega, by omega, ?_, fun l hl => ⟨(all_of_idx (p := fun l : List Int => (l.length : Int) = (m.start.headD []).length ∧ (1 ≤ (l.length : Int) ∧ (l.length : Int) ≤ 10) ∧ allR l 0 (m.states - 1) = true) hJ1 (by omega) l hl).1, (all_of_idx (p := fun l : List Int => (l.length : Int) = (m.start.headD []).length ∧ (1 ≤ (l.length : Int) ∧ (l.length : Int) ≤ 10) ∧ allR l 0 (m.states - 1) = true) hJ1 (by omega) l hl).2.2⟩, all_of_idx (p := fun l : List Int => (l.length : Int) = m.deg ∧ allR l 0 (m.msgs - 1) = true) hJ2 (by omega), all_of_idx (p := fun c : Cl => (0 ≤ c.1 ∧ c.1 ≤ m.states - 1) ∧ (0 ≤ c.2.2 ∧ c.2.2 ≤ m.states - 1) ∧ (c.2.1.length : Int) ≤ m.deg ∧ allR c.2.1 (-1) (m.msgs - 1) = true) hJ3 (by omega), ho⟩, fun hk => hk.output⟩, hE⟩; rw [headD_eq (by omega)]; exact (hJ1 0 (by omega) (by omega)).2.1)
                    · have hg72 := not_false hg73
                      have hp72 := inR_true.1 hg72
                      refine WL_qg rfl rfl hg73 rfl (ev_move rfl) ?_
                      refine WL_qg rfl rfl hg73 rfl (ev_fieldAddr fo26_1 rfl) ?_
                      refine WL_qg rfl rfl hg73 rfl (ev_load one3 rfl (hB1.cell rfl)) ?_
                      refine WL_qg rfl rfl hg73 rfl (ev_sub rfl rfl (by omega)) ?_
                      refine WL_mg rfl rfl hg73 rfl (ev_call rfl (allWithin_spec _ _ _ _ _ _ hr2 (by omega))) ?_
                      rintro _ w80 ⟨rfl, hE80⟩
                      have hz80 := hE80.size
                      replace hE := hE.trans hE80
                      replace hRL0 := hRL0.trans hE80
                      replace hM := hM.ext hE80
                      replace hB1 := hB1.ext hE80
                      replace hr2 := hr2.ext hE80
                      refine WL_qg rfl rfl hg73 rfl (ev_not rfl) ?_
                      refine WL_q rfl (ev_pick_f rfl hg73 rfl) ?_
                      refine WL_nil ?_
                      refine thenE_n ?_
                      refine W_cond rfl (fun hg81 => ?_) (fun hg81 => ?_)
                      · have hg80 := not_true hg81
                        refine W_seq ?_
                        refine W_region ?_
                        refine WL_q rfl (ev_assign rfl) ?_
                        refine WL_nil ?_
                        refine thenE_n ?_
                        refine W_ret ?_
                        refine blockE_r ?_
                        refine thenE_r ?_
                        refine thenE_r ?_
                        refine blockE_r ?_
                        refine thenE_r ?_
                        refine ret1 rfl rfl ?_
                        first | (exact ⟨false, rfl, ffI fun hk => by obtain ⟨k1, k2, k3, k4, k5, k6, k7, k8, k9, k10, k11, k12⟩ := hk; omega, hE⟩) | (refine ⟨false, rfl, ffI fun hk => ?_, hE⟩; have h0 := headD_eq (show 0 < m.start.length by omega); have k8 := hk.head; obtain ⟨k, k1⟩ := hk.start _ (List.getElem_mem (show i < m.start.length by omega)); rw [h0] at k k8; first | omega | exact tf hg80 k1) | (refine ⟨false, rfl, ffI fun hk => ?_, hE⟩; obtain ⟨k, k1⟩ := hk.send _ (List.getElem_mem (show k < m.send.length by omega)); first | omega | exact tf hg101 k1) | (refine ⟨false, rfl, ffI fun hk => ?_, hE⟩; obtain ⟨k, k0, k3, k1⟩ := hk.clauses _ (List.getElem_mem (show q < m.clauses.length by omega)); first | omega | exact tf hg138 k1) | (refine ⟨_, rfl, ⟨fun ho => ⟨hp11, hp16, hp22, by omega, by omega, by omega, by omega, ?_, fun l hl => ⟨(all_of_idx (p := fun l : List Int => (l.length : Int) = (m.start.headD []).length ∧ (1 ≤ (l.length : Int) ∧ (l.length : Int) ≤ 10) ∧ allR l 0 (m.states - 1) = true) hJ1 (by omega) l hl).1, (all_of_idx (p := fun l : List Int => (l.length : Int) = (m.start.headD []).length ∧ (1 ≤ (l.length : Int) ∧ (l.length : Int) ≤ 10) ∧ allR l 0 (m.states - 1) = true) hJ1 (by omega) l hl).2.2⟩, all_of_idx (p := fun l : List Int => (l.length : Int) = m.deg ∧ allR l 0 (m.msgs - 1) = true) hJ2 (by omega), all_of_idx (p := fun c : Cl => (0 ≤ c.1 ∧ c.1 ≤ m.states - 1) ∧ (0 ≤ c.2.2 ∧ c.2.2 ≤ m.states - 1) ∧ (c.2.1.length : Int) ≤ m.deg ∧ allR c.2.1 (-1) (m.msgs - 1) = true) hJ3 (by omega), ho⟩, fun hk => hk.output⟩, hE⟩; rw [headD_eq (by omega)]; exact (hJ1 0 (by omega) (by omega)).2.1)
                      · have hg80 := not_false hg81
                        refine W_skip ?_
                        refine blockE_n ?_
                        refine thenE_n ?_
                        refine W_region ?_
                        refine WL_q rfl (ev_add rfl rfl (by omega)) ?_
                        refine WL_q rfl (ev_move rfl) ?_
                        refine WL_nil ?_
                        refine thenE_n ?_
                        exact ⟨i + 1, (Subs.c rfl (Subs.c rfl (Subs.c rfl Subs.n))), (Subs.c (lkI rfl (by omega)) Subs.n), ⟨hRL0, ⟨by omega, idx_succ (p := fun l : List Int => (l.length : Int) = (m.start.headD []).length ∧ (1 ≤ (l.length : Int) ∧ (l.length : Int) ≤ 10) ∧ allR l 0 (m.states - 1) = true) hJ1 (by omega) ⟨by rw [headD_eq (by omega)]; omega, by omega, hg80⟩⟩⟩, by first | omega | (dsimp only; omega)⟩
                · have hp58 := of_decide_eq_false hg58
                  refine W_exit ?_
                  refine thenE_x ?_
                  refine thenE_x ?_
                  refine blockE_hit ?_
                  refine thenE_n ?_
                  refine W_seq ?_
                  refine W_seq ?_
                  refine W_region ?_
                  refine WL_q rfl (ev_fieldAddr fo26_4 rfl) ?_
                  refine WL_q rfl (ev_load one22 rfl (hB1.cell rfl)) ?_
                  refine WL_q rfl (ev_len Tryz.underlying22 rfl) ?_
                  refine WL_q rfl (ev_move rfl) ?_
                  refine WL_nil ?_
                  refine thenE_n ?_
                  refine W_block ?_
                  refine W_loopC (G := Nat) [(1, _), (85, _), (86, _)] ((Subs.c rfl (Subs.c rfl (Subs.c rfl Subs.n)))) (fun k => [(87, VI (k : Int))]) (fun k w' => Ext wL0 w' ∧ k ≤ m.send.length ∧ ∀ j (_h : j < k) (h2 : j < m.send.length), (fun l : List Int => (l.length : Int) = m.deg ∧ allR l 0 (m.msgs - 1) = true) m.send[j]) (fun k => m.send.length - k) 0 ((Subs.c (lkI rfl (by omega)) Subs.n)) (⟨Ext.refl _, ⟨by omega, fun j h => by omega⟩⟩) ?_
                  rintro k wL2 ⟨hRL2, hJ2l, hJ2⟩
                  have hzL2 := hRL2.size
                  replace hE := hE.trans hRL2
                  replace hM := hM.ext hRL2
                  replace hB1 := hB1.ext hRL2
                  refine W_seq ?_
                  refine W_region ?_
                  refine WL_q rfl (ev_lss rfl rfl) ?_
                  refine WL_nil ?_
                  refine thenE_n ?_
                  refine W_seq ?_
                  refine W_cond rfl (fun hg88 => ?_) (fun hg88 => ?_)
                  · have hp88 := of_decide_eq_true hg88
                    refine W_skip ?_
                    refine thenE_n ?_
                    refine W_seq ?_
                    refine W_block ?_
                    refine W_seq ?_
                    refine W_region ?_
                    have ht2 := totL_le (show k < m.send.length by omega)
                    obtain ⟨a4, c4, hc4, hr4⟩ := hM.send.row (i := k) (by omega)
                    refine WL_q rfl (ev_indexAddr Tryz.underlying22 sz24 rfl rfl (hM.send.isSome (by omega)) (by omega) (by omega)) ?_
                    refine WL_q rfl (ev_load one24 rfl (hc4)) ?_
                    refine WL_q rfl (ev_assign rfl) ?_
                    refine WL_nil ?_
                    refine thenE_n ?_
                    refine W_seq ?_
                    refine W_region ?_
                    refine WL_q rfl (ev_move rfl) ?_
                    refine WL_q rfl (ev_len Tryz.underlying24 rfl) ?_
                    refine WL_q rfl (ev_fieldAddr fo26_0 rfl) ?_
                    refine WL_q rfl (ev_load one3 rfl (hB1.cell rfl)) ?_
                    refine WL_q rfl (ev_neq rfl rfl) ?_
                    refine WL_q rfl (ev_move rfl) ?_
                    refine WL_splitv (t := 96) rfl (fun hg95 => ?_) (fun hg95 => ?_)
                    · have hp95 := of_decide_eq_true hg95
                      refine WL_no rfl rfl hg95 rfl ?_
                      refine WL_no rfl rfl hg95 rfl ?_
                      refine WL_no rfl rfl hg95 rfl ?_
                      refine WL_no rfl rfl hg95 rfl ?_
                      refine WL_no rfl rfl hg95 rfl ?_
                      refine WL_no rfl rfl hg95 rfl ?_
                      refine WL_q rfl (ev_pick_t rfl hg95 rfl) ?_
                      refine WL_nil ?_
                      refine thenE_n ?_
                      refine W_cond_t rfl ?_
                      refine W_seq ?_
                      refine W_region ?_
                      refine WL_q rfl (ev_assign rfl) ?_
                      refine WL_nil ?_
                      refine thenE_n ?_
                      refine W_ret ?_
                      refine blockE_r ?_
                      refine thenE_r ?_
                      refine thenE_r ?_
                      refine blockE_r ?_
                      refine thenE_r ?_
                      refine ret1 rfl rfl ?_
                      first | (exact ⟨false, rfl, ffI fun hk => by obtain ⟨k1, k2, k3, k4, k5, k6, k7, k8, k9, k10, k11, k12⟩ := hk; omega, hE⟩) | (refine ⟨false, rfl, ffI fun hk => ?_, hE⟩; have h0 := headD_eq (show 0 < m.start.length by omega); have k8 := hk.head; obtain ⟨k, k1⟩ := hk.start _ (List.getElem_mem (show i < m.start.length by omega)); rw [h0] at k k8; first | omega | exact tf hg80 k1) | (refine ⟨false, rfl, ffI fun hk => ?_, hE⟩; obtain ⟨k, k1⟩ := hk.send _ (List.getElem_mem (show k < m.send.length by omega)); first | omega | exact tf hg101 k1) | (refine ⟨false, rfl, ffI fun hk => ?_, hE⟩; obtain ⟨k, k0, k3, k1⟩ := hk.clauses _ (List.getElem_mem (show q < m.clauses.length by omega)); first | omega | exact tf hg138 k1) | (refine ⟨_, rfl, ⟨fun ho => ⟨hp11, hp16, hp22, by omega, by omega, by omega, by omega, ?_, fun l hl => ⟨(all_of_idx (p := fun l : List Int => (l.length : Int) = (m.start.headD []).length ∧ (1 ≤ (l.length : Int) ∧ (l.length : Int) ≤ 10) ∧ allR l 0 (m.states - 1) = true) hJ1 (by omega) l hl).1, (all_of_idx (p := fun l : List Int => (l.length : Int) = (m.start.headD []).length ∧ (1 ≤ (l.length : Int) ∧ (l.length : Int) ≤ 10) ∧ allR l 0 (m.states - 1) = true) hJ1 (by omega) l hl).2.2⟩, all_of_idx (p := fun l : List Int => (l.length : Int) = m.deg ∧ allR l 0 (m.msgs - 1) = true) hJ2 (by omega), all_of_idx (p := fun c : Cl => (0 ≤ c.1 ∧ c.1 ≤ m.states - 1) ∧ (0 ≤ c.2.2 ∧ c.2.2 ≤ m.states - 1) ∧ (c.2.1.length : Int) ≤ m.deg ∧ allR c.2.1 (-1) (m.msgs - 1) = true) hJ3 (by omega), ho⟩, fun hk => hk.output⟩, hE⟩; rw [headD_eq (by omega)]; exact (hJ1 0 (by omega) (by omega)).2.1)
                    · have hp95 := of_decide_eq_false hg95
                      refine WL_qg rfl rfl hg95 rfl (ev_move rfl) ?_
                      refine WL_qg rfl rfl hg95 rfl (ev_fieldAddr fo26_2 rfl) ?_
                      refine WL_qg rfl rfl hg95 rfl (ev_load one3 rfl (hB1.cell rfl)) ?_
                      refine WL_qg rfl rfl hg95 rfl (ev_sub rfl rfl (by omega)) ?_
                      refine WL_mg rfl rfl hg95 rfl (ev_call rfl (allWithin_spec _ _ _ _ _ _ hr4 (by omega))) ?_
                      rintro _ w101 ⟨rfl, hE101⟩
                      have hz101 := hE101.size
                      replace hE := hE.trans hE101
                      replace hRL2 := hRL2.trans hE101
                      replace hM := hM.ext hE101
                      replace hB1 := hB1.ext hE101
                      replace hr4 := hr4.ext hE101
                      refine WL_qg rfl rfl hg95 rfl (ev_not rfl) ?_
                      refine WL_q rfl (ev_pick_f rfl hg95 rfl) ?_
                      refine WL_nil ?_
                      refine thenE_n ?_
                      refine W_cond rfl (fun hg102 => ?_) (fun hg102 => ?_)
                      · have hg101 := not_true hg102
                        refine W_seq ?_
                        refine W_region ?_
                        refine WL_q rfl (ev_assign rfl) ?_
                        refine WL_nil ?_
                        refine thenE_n ?_
                        refine W_ret ?_
                        refine blockE_r ?_
                        refine thenE_r ?_
                        refine thenE_r ?_
                        refine blockE_r ?_
                        refine thenE_r ?_
                        refine ret1 rfl rfl ?_
                        first | (exact ⟨false, rfl, ffI fun hk => by obtain ⟨k1, k2, k3, k4, k5, k6, k7, k8, k9, k10, k11, k12⟩ := hk; omega, hE⟩) | (refine ⟨false, rfl, ffI fun hk => ?_, hE⟩; have h0 := headD_eq (show 0 < m.start.length by omega); have k8 := hk.head; obtain ⟨k, k1⟩ := hk.start _ (List.getElem_mem (show i < m.start.length by omega)); rw [h0] at k k8; first | omega | exact tf hg80 k1) | (refine ⟨false, rfl, ffI fun hk => ?_, hE⟩; obtain ⟨k, k1⟩ := hk.send _ (List.getElem_mem (show k < m.send.length by omega)); first | omega | exact tf hg101 k1) | (refine ⟨false, rfl, ffI fun hk => ?_, hE⟩; obtain ⟨k, k0, k3, k1⟩ := hk.clauses _ (List.getElem_mem (show q < m.clauses.length by omega)); first | omega | exact tf hg138 k1) | (refine ⟨_, rfl, ⟨fun ho => ⟨hp11, hp16, hp22, by omega, by omega, by omega, by omega, ?_, fun l hl => ⟨(all_of_idx (p := fun l : List Int => (l.length : Int) = (m.start.headD []).length ∧ (1 ≤ (l.length : Int) ∧ (l.length : Int) ≤ 10) ∧ allR l 0 (m.states - 1) = true) hJ1 (by omega) l hl).1, (all_of_idx (p := fun l : List Int => (l.length : Int) = (m.start.headD []).length ∧ (1 ≤ (l.length : Int) ∧ (l.length : Int) ≤ 10) ∧ allR l 0 (m.states - 1) = true) hJ1 (by omega) l hl).2.2⟩, all_of_idx (p := fun l : List Int => (l.length : Int) = m.deg ∧ allR l 0 (m.msgs - 1) = true) hJ2 (by omega), all_of_idx (p := fun c : Cl => (0 ≤ c.1 ∧ c.1 ≤ m.states - 1) ∧ (0 ≤ c.2.2 ∧ c.2.2 ≤ m.states - 1) ∧ (c.2.1.length : Int) ≤ m.deg ∧ allR c.2.1 (-1) (m.msgs - 1) = true) hJ3 (by omega), ho⟩, fun hk => hk.output⟩, hE⟩; rw [headD_eq (by omega)]; exact (hJ1 0 (by omega) (by omega)).2.1)
                      · have hg101 := not_false hg102
                        refine W_skip ?_
                        refine blockE_n ?_
                        refine thenE_n ?_
                        refine W_region ?_
                        refine WL_q rfl (ev_add rfl rfl (by omega)) ?_
                        refine WL_q rfl (ev_move rfl) ?_
                        refine WL_nil ?_
                        refine thenE_n ?_
                        exact ⟨k + 1, (Subs.c rfl (Subs.c rfl (Subs.c rfl Subs.n))), (Subs.c (lkI rfl (by omega)) Subs.n), ⟨hRL2, ⟨by omega, idx_succ (p := fun l : List Int => (l.length : Int) = m.deg ∧ allR l 0 (m.msgs - 1) = true) hJ2 (by omega) ⟨by omega, hg101⟩⟩⟩, by first | omega | (dsimp only; omega)⟩
                  · have hp88 := of_decide_eq_false hg88
                    refine W_exit ?_
                    refine thenE_x ?_
                    refine thenE_x ?_
                    refine blockE_hit ?_
                    refine thenE_n ?_
                    refine W_seq ?_
                    refine W_seq ?_
                    refine W_region ?_
                    refine WL_q rfl (ev_fieldAddr fo26_5 rfl) ?_
                    refine WL_q rfl (ev_load one23 rfl (hB1.cell rfl)) ?_
                    refine WL_q rfl (ev_len Tryz.underlying23 rfl) ?_
                    refine WL_q rfl (ev_move rfl) ?_
                    refine WL_nil ?_
                    refine thenE_n ?_
                    refine W_block ?_
                    refine W_loopC (G := Nat) [(1, _), (106, _), (107, _)] ((Subs.c rfl (Subs.c rfl (Subs.c rfl Subs.n)))) (fun q => [(108, VI (q : Int))]) (fun q w' => Ext wL2 w' ∧ q ≤ m.clauses.length ∧ ∀ j (_h : j < q) (h2 : j < m.clauses.length), (fun c : Cl => (0 ≤ c.1 ∧ c.1 ≤ m.states - 1) ∧ (0 ≤ c.2.2 ∧ c.2.2 ≤ m.states - 1) ∧ (c.2.1.length : Int) ≤ m.deg ∧ allR c.2.1 (-1) (m.msgs - 1) = true) m.clauses[j]) (fun q => m.clauses.length - q) 0 ((Subs.c (lkI rfl (by omega)) Subs.n)) (⟨Ext.refl _, ⟨by omega, fun j h => by omega⟩⟩) ?_
                    rintro q wL4 ⟨hRL4, hJ3l, hJ3⟩
                    have hzL4 := hRL4.size
                    replace hE := hE.trans hRL4
                    replace hM := hM.ext hRL4
                    replace hB1 := hB1.ext hRL4
                    refine W_seq ?_
                    refine W_region ?_
                    refine WL_q rfl (ev_lss rfl rfl) ?_
                    refine WL_nil ?_
                    refine thenE_n ?_
                    refine W_seq ?_
                    refine W_cond rfl (fun hg109 => ?_) (fun hg109 => ?_)
                    · have hp109 := of_decide_eq_true hg109
                      refine W_skip ?_
                      refine thenE_n ?_
                      refine W_seq ?_
                      refine W_block ?_
                      refine W_seq ?_
                      refine W_region ?_
                      have ht3 := totC_le (show q < m.clauses.length by omega)
                      obtain ⟨a5, c5, hc5, hr5⟩ := hM.clauses.cl (i := q) (by omega)
                      refine WL_q rfl (ev_indexAddr Tryz.underlying23 sz40 rfl rfl (hM.clauses.isSome (by omega)) (by omega) (by omega)) ?_
                      refine WL_q rfl (ev_loads st40 sz40 rfl (hc5) rfl) ?_
                      refine WL_m rfl (ev_alloc zr40) ?_
                      rintro _ w8 ⟨rfl, hN8⟩
                      have hz8 := hN8.size
                      replace hE := hE.trans hN8.ext
                      replace hRL4 := hRL4.trans hN8.ext
                      replace hM := hM.ext hN8.ext
                      replace hB1 := hB1.ext hN8.ext
                      replace hr5 := hr5.ext hN8.ext
                      have hB8 : Blk w8 _ _ [_, _, _] := hN8.blk
                      refine WL_s (ev_stores sz40 rfl rfl rfl (by simp [Value.oneCell']) hB8 (by simp)) ?_
                      rintro _ w19_3 hS19_3
                      have hz19_3 := hS19_3.size
                      replace hE := hE.sto hS19_3 (by omega)
                      replace hRL4 := hRL4.sto hS19_3 (by omega)
                      replace hM := hM.sto hS19_3 (by omega)
                      replace hB1 := hB1.sto hS19_3 (by omega)
                      replace hr5 := hr5.sto hS19_3 (by omega)
                      replace hB8 : Blk w19_3 _ _ [_, _, _] := hS19_3.blk
                      refine WL_nil ?_
                      refine thenE_n ?_
                      refine W_seq ?_
                      refine W_region ?_
                      refine WL_q rfl (ev_loads st26 sz26 rfl (cellsB hB1) rfl) ?_
                      refine WL_q rfl (ev_fieldAddr fo40_0 rfl) ?_
                      refine WL_q rfl (ev_load one3 rfl (hB8.cell rfl)) ?_
                      refine WL_m rfl (ev_call rfl (hasState_spec h m _ _ (by omega))) ?_
                      rintro _ w115 ⟨rfl, hE115⟩
                      have hz115 := hE115.size
                      replace hE := hE.trans hE115
                      replace hRL4 := hRL4.trans hE115
                      replace hM := hM.ext hE115
                      replace hB1 := hB1.ext hE115
                      replace hr5 := hr5.ext hE115
                      replace hB8 := hB8.ext hE115
                      refine WL_q rfl (ev_not rfl) ?_
                      refine WL_q rfl (ev_move rfl) ?_
                      refine WL_splitv (t := 117) rfl (fun hg116 => ?_) (fun hg116 => ?_)
                      · have hg115 := not_true hg116
                        have hp115 := inR_false.1 hg115
                        refine WL_no rfl rfl hg116 rfl ?_
                        refine WL_no rfl rfl hg116 rfl ?_
                        refine WL_no rfl rfl hg116 rfl ?_
                        refine WL_no rfl rfl hg116 rfl ?_
                        refine WL_no rfl rfl hg116 rfl ?_
                        refine WL_q rfl (ev_pick_t rfl hg116 rfl) ?_
                        refine WL_q rfl (ev_move rfl) ?_
                        refine WL_no rfl rfl rfl rfl ?_
                        refine WL_no rfl rfl rfl rfl ?_
                        refine WL_no rfl rfl rfl rfl ?_
                        refine WL_no rfl rfl rfl rfl ?_
                        refine WL_no rfl rfl rfl rfl ?_
                        refine WL_no rfl rfl rfl rfl ?_
                        refine WL_q rfl (ev_pick_t rfl rfl rfl) ?_
                        refine WL_q rfl (ev_move rfl) ?_
                        refine WL_no rfl rfl rfl rfl ?_
                        refine WL_no rfl rfl rfl rfl ?_
                        refine WL_no rfl rfl rfl rfl ?_
                        refine WL_no rfl rfl rfl rfl ?_
                        refine WL_no rfl rfl rfl rfl ?_
                        refine WL_no rfl rfl rfl rfl ?_
                        refine WL_no rfl rfl rfl rfl ?_
                        refine WL_q rfl (ev_pick_t rfl rfl rfl) ?_
                        refine WL_nil ?_
                        refine thenE_n ?_
                        refine W_cond_t rfl ?_
                        refine W_seq ?_
                        refine W_region ?_
                        refine WL_q rfl (ev_assign rfl) ?_
                        refine WL_nil ?_
                        refine thenE_n ?_
                        refine W_ret ?_
                        refine blockE_r ?_
                        refine thenE_r ?_
                        refine thenE_r ?_
                        refine blockE_r ?_
                        refine thenE_r ?_
                        refine ret1 rfl rfl ?_
                        first | (exact ⟨false, rfl, ffI fun hk => by obtain ⟨k1, k2, k3, k4, k5, k6, k7, k8, k9, k10, k11, k12⟩ := hk; omega, hE⟩) | (refine ⟨false, rfl, ffI fun hk => ?_, hE⟩; have h0 := headD_eq (show 0 < m.start.length by omega); have k8 := hk.head; obtain ⟨k, k1⟩ := hk.start _ (List.getElem_mem (show i < m.start.length by omega)); rw [h0] at k k8; first | omega | exact tf hg80 k1) | (refine ⟨false, rfl, ffI fun hk => ?_, hE⟩; obtain ⟨k, k1⟩ := hk.send _ (List.getElem_mem (show k < m.send.length by omega)); first | omega | exact tf hg101 k1) | (refine ⟨false, rfl, ffI fun hk => ?_, hE⟩; obtain ⟨k, k0, k3, k1⟩ := hk.clauses _ (List.getElem_mem (show q < m.clauses.length by omega)); first | omega | exact tf hg138 k1) | (refine ⟨_, rfl, ⟨fun ho => ⟨hp11, hp16, hp22, by omega, by omega, by omega, by omega, ?_, fun l hl => ⟨(all_of_idx (p := fun l : List Int => (l.length : Int) = (m.start.headD []).length ∧ (1 ≤ (l.length : Int) ∧ (l.length : Int) ≤ 10) ∧ allR l 0 (m.states - 1) = true) hJ1 (by omega) l hl).1, (all_of_idx (p := fun l : List Int => (l.length : Int) = (m.start.headD []).length ∧ (1 ≤ (l.length : Int) ∧ (l.length : Int) ≤ 10) ∧ allR l 0 (m.states - 1) = true) hJ1 (by omega) l hl).2.2⟩, all_of_idx (p := fun l : List Int => (l.length : Int) = m.deg ∧ allR l 0 (m.msgs - 1) = true) hJ2 (by omega), all_of_idx (p := fun c : Cl => (0 ≤ c.1 ∧ c.1 ≤ m.states - 1) ∧ (0 ≤ c.2.2 ∧ c.2.2 ≤ m.states - 1) ∧ (c.2.1.length : Int) ≤ m.deg ∧ allR c.2.1 (-1) (m.msgs - 1) = true) hJ3 (by omega), ho⟩, fun hk => hk.output⟩, hE⟩; rw [headD_eq (by omega)]; exact (hJ1 0 (by omega) (by omega)).2.1)
                      · have hg115 := not_false hg116
                        have hp115 := inR_true.1 hg115
                        refine WL_qg rfl rfl hg116 rfl (ev_loads st26 sz26 rfl (cellsB hB1) rfl) ?_
                        refine WL_qg rfl rfl hg116 rfl (ev_fieldAddr fo40_2 rfl) ?_
                        refine WL_qg rfl rfl hg116 rfl (ev_load one3 rfl (hB8.cell rfl)) ?_
                        refine WL_mg rfl rfl hg116 rfl (ev_call rfl (hasState_spec h m _ _ (by omega))) ?_
                        rintro _ w121 ⟨rfl, hE121⟩
                        have hz121 := hE121.size
                        replace hE := hE.trans hE121
                        replace hRL4 := hRL4.trans hE121
                        replace hM := hM.ext hE121
                        replace hB1 := hB1.ext hE121
                        replace hr5 := hr5.ext hE121
                        replace hB8 := hB8.ext hE121
                        refine WL_qg rfl rfl hg116 rfl (ev_not rfl) ?_
                        refine WL_q rfl (ev_pick_f rfl hg116 rfl) ?_
                        refine WL_q rfl (ev_move rfl) ?_
                        refine WL_splitv (t := 124) rfl (fun hg122 => ?_) (fun hg122 => ?_)
                        · have hg121 := not_true hg122
                          have hp121 := inR_false.1 hg121
                          refine WL_no rfl rfl hg122 rfl ?_
                          refine WL_no rfl rfl hg122 rfl ?_
                          refine WL_no rfl rfl hg122 rfl ?_
                          refine WL_no rfl rfl hg122 rfl ?_
                          refine WL_no rfl rfl hg122 rfl ?_
                          refine WL_no rfl rfl hg122 rfl ?_
                          refine WL_q rfl (ev_pick_t rfl hg122 rfl) ?_
                          refine WL_q rfl (ev_move rfl) ?_
                          refine WL_no rfl rfl rfl rfl ?_
                          refine WL_no rfl rfl rfl rfl ?_
                          refine WL_no rfl rfl rfl rfl ?_
                          refine WL_no rfl rfl rfl rfl ?_
                          refine WL_no rfl rfl rfl rfl ?_
                          refine WL_no rfl rfl rfl rfl ?_
                          refine WL_no rfl rfl rfl rfl ?_
                          refine WL_q rfl (ev_pick_t rfl rfl rfl) ?_
                          refine WL_nil ?_
                          refine thenE_n ?_
                          refine W_cond_t rfl ?_
                          refine W_seq ?_
                          refine W_region ?_
                          refine WL_q rfl (ev_assign rfl) ?_
                          refine WL_nil ?_
                          refine thenE_n ?_
                          refine W_ret ?_
                          refine blockE_r ?_
                          refine thenE_r ?_
                          refine thenE_r ?_
                          refine blockE_r ?_
                          refine thenE_r ?_
                          refine ret1 rfl rfl ?_
                          first | (exact ⟨false, rfl, ffI fun hk => by obtain ⟨k1, k2, k3, k4, k5, k6, k7, k8, k9, k10, k11, k12⟩ := hk; omega, hE⟩) | (refine ⟨false, rfl, ffI fun hk => ?_, hE⟩; have h0 := headD_eq (show 0 < m.start.length by omega); have k8 := hk.head; obtain ⟨k, k1⟩ := hk.start _ (List.getElem_mem (show i < m.start.length by omega)); rw [h0] at k k8; first | omega | exact tf hg80 k1) | (refine ⟨false, rfl, ffI fun hk => ?_, hE⟩; obtain ⟨k, k1⟩ := hk.send _ (List.getElem_mem (show k < m.send.length by omega)); first | omega | exact tf hg101 k1) | (refine ⟨false, rfl, ffI fun hk => ?_, hE⟩; obtain ⟨k, k0, k3, k1⟩ := hk.clauses _ (List.getElem_mem (show q < m.clauses.length by omega)); first | omega | exact tf hg138 k1) | (refine ⟨_, rfl, ⟨fun ho => ⟨hp11, hp16, hp22, by omega, by omega, by omega, by omega, ?_, fun l hl => ⟨(all_of_idx (p := fun l : List Int => (l.length : Int) = (m.start.headD []).length ∧ (1 ≤ (l.length : Int) ∧ (l.length : Int) ≤ 10) ∧ allR l 0 (m.states - 1) = true) hJ1 (by omega) l hl).1, (all_of_idx (p := fun l : List Int => (l.length : Int) = (m.start.headD []).length ∧ (1 ≤ (l.length : Int) ∧ (l.length : Int) ≤ 10) ∧ allR l 0 (m.states - 1) = true) hJ1 (by omega) l hl).2.2⟩, all_of_idx (p := fun l : List Int => (l.length : Int) = m.deg ∧ allR l 0 (m.msgs - 1) = true) hJ2 (by omega), all_of_idx (p := fun c : Cl => (0 ≤ c.1 ∧ c.1 ≤ m.states - 1) ∧ (0 ≤ c.2.2 ∧ c.2.2 ≤ m.states - 1) ∧ (c.2.1.length : Int) ≤ m.deg ∧ allR c.2.1 (-1) (m.msgs - 1) = true) hJ3 (by omega), ho⟩, fun hk => hk.output⟩, hE⟩; rw [headD_eq (by omega)]; exact (hJ1 0 (by omega) (by omega)).2.1)
                        · have hg121 := not_false hg122
                          have hp121 := inR_true.1 hg121
                          refine WL_qg rfl rfl hg122 rfl (ev_fieldAddr fo40_1 rfl) ?_
                          refine WL_qg rfl rfl hg122 rfl (ev_load one24 rfl (hB8.cell rfl)) ?_
                          refine WL_qg rfl rfl hg122 rfl (ev_len Tryz.underlying24 rfl) ?_
                          refine WL_qg rfl rfl hg122 rfl (ev_fieldAddr fo26_0 rfl) ?_
                          refine WL_qg rfl rfl hg122 rfl (ev_load one3 rfl (hB1.cell rfl)) ?_
                          refine WL_qg rfl rfl hg122 rfl (ev_gtr rfl rfl) ?_
                          refine WL_q rfl (ev_pick_f rfl hg122 rfl) ?_
                          refine WL_q rfl (ev_move rfl) ?_
                          refine WL_splitv (t := 132) rfl (fun hg130 => ?_) (fun hg130 => ?_)
                          · have hp130 := of_decide_eq_true hg130
                            refine WL_no rfl rfl hg130 rfl ?_
                            refine WL_no rfl rfl hg130 rfl ?_
                            refine WL_no rfl rfl hg130 rfl ?_
                            refine WL_no rfl rfl hg130 rfl ?_
                            refine WL_no rfl rfl hg130 rfl ?_
                            refine WL_no rfl rfl hg130 rfl ?_
                            refine WL_no rfl rfl hg130 rfl ?_
                            refine WL_q rfl (ev_pick_t rfl hg130 rfl) ?_
                            refine WL_nil ?_
                            refine thenE_n ?_
                            refine W_cond_t rfl ?_
                            refine W_seq ?_
                            refine W_region ?_
                            refine WL_q rfl (ev_assign rfl) ?_
                            refine WL_nil ?_
                            refine thenE_n ?_
                            refine W_ret ?_
                            refine blockE_r ?_
                            refine thenE_r ?_
                            refine thenE_r ?_
                            refine blockE_r ?_
                            refine thenE_r ?_
                            refine ret1 rfl rfl ?_
                            first | (exact ⟨false, rfl, ffI fun hk => by obtain ⟨k1, k2, k3, k4, k5, k6, k7, k8, k9, k10, k11, k12⟩ := hk; omega, hE⟩) | (refine ⟨false, rfl, ffI fun hk => ?_, hE⟩; have h0 := headD_eq (show 0 < m.start.length by omega); have k8 := hk.head; obtain ⟨k, k1⟩ := hk.start _ (List.getElem_mem (show i < m.start.length by omega)); rw [h0] at k k8; first | omega | exact tf hg80 k1) | (refine ⟨false, rfl, ffI fun hk => ?_, hE⟩; obtain ⟨k, k1⟩ := hk.send _ (List.getElem_mem (show k < m.send.length by omega)); first | omega | exact tf hg101 k1) | (refine ⟨false, rfl, ffI fun hk => ?_, hE⟩; obtain ⟨k, k0, k3, k1⟩ := hk.clauses _ (List.getElem_mem (show q < m.clauses.length by omega)); first | omega | exact tf hg138 k1) | (refine ⟨_, rfl, ⟨fun ho => ⟨hp11, hp16, hp22, by omega, by omega, by omega, by omega, ?_, fun l hl => ⟨(all_of_idx (p := fun l : List Int => (l.length : Int) = (m.start.headD []).length ∧ (1 ≤ (l.length : Int) ∧ (l.length : Int) ≤ 10) ∧ allR l 0 (m.states - 1) = true) hJ1 (by omega) l hl).1, (all_of_idx (p := fun l : List Int => (l.length : Int) = (m.start.headD []).length ∧ (1 ≤ (l.length : Int) ∧ (l.length : Int) ≤ 10) ∧ allR l 0 (m.states - 1) = true) hJ1 (by omega) l hl).2.2⟩, all_of_idx (p := fun l : List Int => (l.length : Int) = m.deg ∧ allR l 0 (m.msgs - 1) = true) hJ2 (by omega), all_of_idx (p := fun c : Cl => (0 ≤ c.1 ∧ c.1 ≤ m.states - 1) ∧ (0 ≤ c.2.2 ∧ c.2.2 ≤ m.states - 1) ∧ (c.2.1.length : Int) ≤ m.deg ∧ allR c.2.1 (-1) (m.msgs - 1) = true) hJ3 (by omega), ho⟩, fun hk => hk.output⟩, hE⟩; rw [headD_eq (by omega)]; exact (hJ1 0 (by omega) (by omega)).2.1)
                          · have hp130 := of_decide_eq_false hg130
                            refine WL_qg rfl rfl hg130 rfl (ev_fieldAddr fo40_1 rfl) ?_
                            refine WL_qg rfl rfl hg130 rfl (ev_load one24 rfl (hB8.cell rfl)) ?_
                            refine WL_qg rfl rfl hg130 rfl (ev_fieldAddr fo26_2 rfl) ?_
                            refine WL_qg rfl rfl hg130 rfl (ev_load one3 rfl (hB1.cell rfl)) ?_
                            refine WL_qg rfl rfl hg130 rfl (ev_sub rfl rfl (by omega)) ?_
                            refine WL_mg rfl rfl hg130 rfl (ev_call rfl (allWithin_spec _ _ _ _ _ _ hr5 (by omega))) ?_
                            rintro _ w138 ⟨rfl, hE138⟩
                            have hz138 := hE138.size
                            replace hE := hE.trans hE138
                            replace hRL4 := hRL4.trans hE138
                            replace hM := hM.ext hE138
                            replace hB1 := hB1.ext hE138
                            replace hr5 := hr5.ext hE138
                            replace hB8 := hB8.ext hE138
                            refine WL_qg rfl rfl hg130 rfl (ev_not rfl) ?_
                            refine WL_q rfl (ev_pick_f rfl hg130 rfl) ?_
                            refine WL_nil ?_
                            refine thenE_n ?_
                            refine W_cond rfl (fun hg139 => ?_) (fun hg139 => ?_)
                            · have hg138 := not_true hg139
                              refine W_seq ?_
                              refine W_region ?_
                              refine WL_q rfl (ev_assign rfl) ?_
                              refine WL_nil ?_
                              refine thenE_n ?_
                              refine W_ret ?_
                              refine blockE_r ?_
                              refine thenE_r ?_
                              refine thenE_r ?_
                              refine blockE_r ?_
                              refine thenE_r ?_
                              refine ret1 rfl rfl ?_
                              first | (exact ⟨false, rfl, ffI fun hk => by obtain ⟨k1, k2, k3, k4, k5, k6, k7, k8, k9, k10, k11, k12⟩ := hk; omega, hE⟩) | (refine ⟨false, rfl, ffI fun hk => ?_, hE⟩; have h0 := headD_eq (show 0 < m.start.length by omega); have k8 := hk.head; obtain ⟨k, k1⟩ := hk.start _ (List.getElem_mem (show i < m.start.length by omega)); rw [h0] at k k8; first | omega | exact tf hg80 k1) | (refine ⟨false, rfl, ffI fun hk => ?_, hE⟩; obtain ⟨k, k1⟩ := hk.send _ (List.getElem_mem (show k < m.send.length by omega)); first | omega | exact tf hg101 k1) | (refine ⟨false, rfl, ffI fun hk => ?_, hE⟩; obtain ⟨k, k0, k3, k1⟩ := hk.clauses _ (List.getElem_mem (show q < m.clauses.length by omega)); first | omega | exact tf hg138 k1) | (refine ⟨_, rfl, ⟨fun ho => ⟨hp11, hp16, hp22, by omega, by omega, by omega, by omega, ?_, fun l hl => ⟨(all_of_idx (p := fun l : List Int => (l.length : Int) = (m.start.headD []).length ∧ (1 ≤ (l.length : Int) ∧ (l.length : Int) ≤ 10) ∧ allR l 0 (m.states - 1) = true) hJ1 (by omega) l hl).1, (all_of_idx (p := fun l : List Int => (l.length : Int) = (m.start.headD []).length ∧ (1 ≤ (l.length : Int) ∧ (l.length : Int) ≤ 10) ∧ allR l 0 (m.states - 1) = true) hJ1 (by omega) l hl).2.2⟩, all_of_idx (p := fun l : List Int => (l.length : Int) = m.deg ∧ allR l 0 (m.msgs - 1) = true) hJ2 (by omega), all_of_idx (p := fun c : Cl => (0 ≤ c.1 ∧ c.1 ≤ m.states - 1) ∧ (0 ≤ c.2.2 ∧ c.2.2 ≤ m.states - 1) ∧ (c.2.1.length : Int) ≤ m.deg ∧ allR c.2.1 (-1) (m.msgs - 1) = true) hJ3 (by omega), ho⟩, fun hk => hk.output⟩, hE⟩; rw [headD_eq (by omega)]; exact (hJ1 0 (by omega) (by omega)).2.1)
                            · have hg138 := not_false hg139
                              refine W_skip ?_
                              refine blockE_n ?_
                              refine thenE_n ?_
                              refine W_region ?_
                              refine WL_q rfl (ev_add rfl rfl (by omega)) ?_
                              refine WL_q rfl (ev_move rfl) ?_
                              refine WL_nil ?_
                              refine thenE_n ?_
                              exact ⟨q + 1, (Subs.c rfl (Subs.c rfl (Subs.c rfl Subs.n))), (Subs.c (lkI rfl (by omega)) Subs.n), ⟨hRL4, ⟨by omega, idx_succ (p := fun c : Cl => (0 ≤ c.1 ∧ c.1 ≤ m.states - 1) ∧ (0 ≤ c.2.2 ∧ c.2.2 ≤ m.states - 1) ∧ (c.2.1.length : Int) ≤ m.deg ∧ allR c.2.1 (-1) (m.msgs - 1) = true) hJ3 (by omega) ⟨hp115, hp121, by omega, hg138⟩⟩⟩, by first | omega | (dsimp only; omega)⟩
                    · have hp109 := of_decide_eq_false hg109
                      refine W_exit ?_
                      refine thenE_x ?_
                      refine thenE_x ?_
                      refine blockE_hit ?_
                      refine thenE_n ?_
                      refine W_seq ?_
                      refine W_region ?_
                      refine WL_q rfl (ev_fieldAddr fo26_6 rfl) ?_
                      refine WL_q rfl (ev_load one24 rfl (hB1.cell rfl)) ?_
                      refine WL_m rfl (ev_call rfl (allWithin_spec _ _ _ _ _ _ hM.output (by omega))) ?_
                      rintro _ w144 ⟨rfl, hE144⟩
                      have hz144 := hE144.size
                      replace hE := hE.trans hE144
                      replace hM := hM.ext hE144
                      replace hB1 := hB1.ext hE144
                      refine WL_q rfl (ev_assign rfl) ?_
                      refine WL_nil ?_
                      refine thenE_n ?_
                      refine W_ret ?_
                      refine ret1 rfl rfl ?_
                      first | (exact ⟨false, rfl, ffI fun hk => by obtain ⟨k1, k2, k3, k4, k5, k6, k7, k8, k9, k10, k11, k12⟩ := hk; omega, hE⟩) | (refine ⟨false, rfl, ffI fun hk => ?_, hE⟩; have h0 := headD_eq (show 0 < m.start.length by omega); have k8 := hk.head; obtain ⟨k, k1⟩ := hk.start _ (List.getElem_mem (show i < m.start.length by omega)); rw [h0] at k k8; first | omega | exact tf hg80 k1) | (refine ⟨false, rfl, ffI fun hk => ?_, hE⟩; obtain ⟨k, k1⟩ := hk.send _ (List.getElem_mem (show k < m.send.length by omega)); first | omega | exact tf hg101 k1) | (refine ⟨false, rfl, ffI fun hk => ?_, hE⟩; obtain ⟨k, k0, k3, k1⟩ := hk.clauses _ (List.getElem_mem (show q < m.clauses.length by omega)); first | omega | exact tf hg138 k1) | (refine ⟨_, rfl, ⟨fun ho => ⟨hp11, hp16, hp22, by omega, by omega, by omega, by omega, ?_, fun l hl => ⟨(all_of_idx (p := fun l : List Int => (l.length : Int) = (m.start.headD []).length ∧ (1 ≤ (l.length : Int) ∧ (l.length : Int) ≤ 10) ∧ allR l 0 (m.states - 1) = true) hJ1 (by omega) l hl).1, (all_of_idx (p := fun l : List Int => (l.length : Int) = (m.start.headD []).length ∧ (1 ≤ (l.length : Int) ∧ (l.length : Int) ≤ 10) ∧ allR l 0 (m.states - 1) = true) hJ1 (by omega) l hl).2.2⟩, all_of_idx (p := fun l : List Int => (l.length : Int) = m.deg ∧ allR l 0 (m.msgs - 1) = true) hJ2 (by omega), all_of_idx (p := fun c : Cl => (0 ≤ c.1 ∧ c.1 ≤ m.states - 1) ∧ (0 ≤ c.2.2 ∧ c.2.2 ≤ m.states - 1) ∧ (c.2.1.length : Int) ≤ m.deg ∧ allR c.2.1 (-1) (m.msgs - 1) = true) hJ3 (by omega), ho⟩, fun hk => hk.output⟩, hE⟩; rw [headD_eq (by omega)]; exact (hJ1 0 (by omega) (by omega)).2.1)

set_option maxRecDepth 100000 in
theorem maGood_spec {lo hi : Nat} (h : MA) (m : Mach) (w : World) (hM : IsMach lo hi w h m) (hhi : hi ≤ w.heap.size) (hn : totM m ≤ 1048576) :
    Fn Tryz.prog 14 #[machV h m] w (fun v w' => ∃ b, v = VB b ∧ (b = true ↔ MOk m) ∧ Ext w w') := by
  unfold totM at hn
  have hq1 := totL_len m.start
  have hq2 := totL_len m.send
  have hq3 := totC_len m.clauses
  have hE := Ext.refl w
  refine Fn_of Tryz.func14 rfl rfl (by kernel_rfl) rfl ?_
  refine W_seq ?_
  refine W_region ?_
  refine WL_m rfl (ev_box rfl) ?_
  rintro _ w1 ⟨rfl, hN1⟩
  have hz1 := hN1.size
  replace hE := hE.trans hN1.ext
  replace hM := hM.ext hN1.ext
  have hB1 : Blk w1 _ _ [_, _, _, _, _, _, _] := hN1.blk
  refine WL_q rfl (ev_assign rfl) ?_
  refine WL_nil ?_
  refine thenE_n ?_
  refine W_seq ?_
  refine W_seq ?_
  refine W_region ?_
  refine WL_q rfl (ev_fieldAddr fo26_0 rfl) ?_
  refine WL_q rfl (ev_load one3 rfl (hB1.cell rfl)) ?_
  refine WL_m rfl (ev_call rfl (l1In_spec _ _ _ _)) ?_
  rintro _ _ ⟨rfl, rfl⟩
  refine WL_q rfl (ev_not rfl) ?_
  refine WL_q rfl (ev_move rfl) ?_
  refine WL_splitv (t := 13) rfl (fun hg12 => ?_) (fun hg12 => ?_)
  · have hg11 := not_true hg12
    have hp11 := inR_false.1 hg11
    refine WL_no rfl rfl hg12 rfl ?_
    refine WL_no rfl rfl hg12 rfl ?_
    refine WL_no rfl rfl hg12 rfl ?_
    refine WL_no rfl rfl hg12 rfl ?_
    refine WL_q rfl (ev_pick_t rfl hg12 rfl) ?_
    refine WL_q rfl (ev_move rfl) ?_
    refine WL_no rfl rfl rfl rfl ?_
    refine WL_no rfl rfl rfl rfl ?_
    refine WL_no rfl rfl rfl rfl ?_
    refine WL_no rfl rfl rfl rfl ?_
    refine WL_q rfl (ev_pick_t rfl rfl rfl) ?_
    refine WL_nil ?_
    refine thenE_n ?_
    refine W_cond_t rfl ?_
    refine W_seq ?_
    refine W_region ?_
    refine WL_q rfl (ev_assign rfl) ?_
    refine WL_nil ?_
    refine thenE_n ?_
    refine W_ret ?_
    refine thenE_r ?_
    refine ret1 rfl rfl ?_
    first | (exact ⟨false, rfl, ffI fun hk => by obtain ⟨k1, k2, k3, k4, k5, k6, k7, k8, k9, k10, k11, k12⟩ := hk; omega, hE⟩) | (refine ⟨false, rfl, ffI fun hk => ?_, hE⟩; have h0 := headD_eq (show 0 < m.start.length by omega); have k8 := hk.head; rw [h0] at k8; omega) | (refine ⟨false, rfl, ffI fun hk => ?_, hE⟩; have k1 := hk.output; exact tf hg66 k1) | (refine ⟨false, rfl, ffI fun hk => ?_, hE⟩; obtain ⟨k, k1⟩ := hk.start _ (List.getElem_mem (show i < m.start.length by omega)); rw [headD_eq (show 0 < m.start.length by omega)] at k; exact and_f hg84 k k1) | (refine ⟨false, rfl, ffI fun hk => ?_, hE⟩; obtain ⟨k, k1⟩ := hk.send _ (List.getElem_mem (show k < m.send.length by omega)); exact and_f hg99 k k1) | (refine ⟨false, rfl, ffI fun hk => ?_, hE⟩; obtain ⟨k, k0, k3, k1⟩ := hk.clauses _ (List.getElem_mem (show q < m.clauses.length by omega)); first | omega | exact tf hg139 k1) | (exact ⟨_, rfl, ttI ⟨hp11, hp16, hp22, by omega, by omega, by omega, by omega, by rw [headD_eq (by omega)]; omega, all_of_idx (p := fun l : List Int => (l.length : Int) = (m.start.headD []).length ∧ allR l 0 (m.states - 1) = true) hJ1 (by omega), all_of_idx (p := fun l : List Int => (l.length : Int) = m.deg ∧ allR l 0 (m.msgs - 1) = true) hJ2 (by omega), all_of_idx (p := fun c : Cl => (0 ≤ c.1 ∧ c.1 ≤ m.states - 1) ∧ (0 ≤ c.2.2 ∧ c.2.2 ≤ m.states - 1) ∧ (c.2.1.length : Int) ≤ m.deg ∧ allR c.2.1 (-1) (m.msgs - 1) = true) hJ3 (by omega), hg66⟩, hE⟩)
  · have hg11 := not_false hg12
    have hp11 := inR_true.1 hg11
    refine WL_qg rfl rfl hg12 rfl (ev_fieldAddr fo26_1 rfl) ?_
    refine WL_qg rfl rfl hg12 rfl (ev_load one3 rfl (hB1.cell rfl)) ?_
    refine WL_mg rfl rfl hg12 rfl (ev_call rfl (l1In_spec _ _ _ _)) ?_
    rintro _ _ ⟨rfl, rfl⟩
    refine WL_qg rfl rfl hg12 rfl (ev_not rfl) ?_
    refine WL_q rfl (ev_pick_f rfl hg12 rfl) ?_
    refine WL_q rfl (ev_move rfl) ?_
    refine WL_splitv (t := 19) rfl (fun hg17 => ?_) (fun hg17 => ?_)
    · have hg16 := not_true hg17
      have hp16 := inR_false.1 hg16
      refine WL_no rfl rfl hg17 rfl ?_
      refine WL_no rfl rfl hg17 rfl ?_
      refine WL_no rfl rfl hg17 rfl ?_
      refine WL_no rfl rfl hg17 rfl ?_
      refine WL_q rfl (ev_pick_t rfl hg17 rfl) ?_
      refine WL_nil ?_
      refine thenE_n ?_
      refine W_cond_t rfl ?_
      refine W_seq ?_
      refine W_region ?_
      refine WL_q rfl (ev_assign rfl) ?_
      refine WL_nil ?_
      refine thenE_n ?_
      refine W_ret ?_
      refine thenE_r ?_
      refine ret1 rfl rfl ?_
      first | (exact ⟨false, rfl, ffI fun hk => by obtain ⟨k1, k2, k3, k4, k5, k6, k7, k8, k9, k10, k11, k12⟩ := hk; omega, hE⟩) | (refine ⟨false, rfl, ffI fun hk => ?_, hE⟩; have h0 := headD_eq (show 0 < m.start.length by omega); have k8 := hk.head; rw [h0] at k8; omega) | (refine ⟨false, rfl, ffI fun hk => ?_, hE⟩; have k1 := hk.output; exact tf hg66 k1) | (refine ⟨false, rfl, ffI fun hk => ?_, hE⟩; obtain ⟨k, k1⟩ := hk.start _ (List.getElem_mem (show i < m.start.length by omega)); rw [headD_eq (show 0 < m.start.length by omega)] at k; exact and_f hg84 k k1) | (refine ⟨false, rfl, ffI fun hk => ?_, hE⟩; obtain ⟨k, k1⟩ := hk.send _ (List.getElem_mem (show k < m.send.length by omega)); exact and_f hg99 k k1) | (refine ⟨false, rfl, ffI fun hk => ?_, hE⟩; obtain ⟨k, k0, k3, k1⟩ := hk.clauses _ (List.getElem_mem (show q < m.clauses.length by omega)); first | omega | exact tf hg139 k1) | (exact ⟨_, rfl, ttI ⟨hp11, hp16, hp22, by omega, by omega, by omega, by omega, by rw [headD_eq (by omega)]; omega, all_of_idx (p := fun l : List Int => (l.length : Int) = (m.start.headD []).length ∧ allR l 0 (m.states - 1) = true) hJ1 (by omega), all_of_idx (p := fun l : List Int => (l.length : Int) = m.deg ∧ allR l 0 (m.msgs - 1) = true) hJ2 (by omega), all_of_idx (p := fun c : Cl => (0 ≤ c.1 ∧ c.1 ≤ m.states - 1) ∧ (0 ≤ c.2.2 ∧ c.2.2 ≤ m.states - 1) ∧ (c.2.1.length : Int) ≤ m.deg ∧ allR c.2.1 (-1) (m.msgs - 1) = true) hJ3 (by omega), hg66⟩, hE⟩)
    · have hg16 := not_false hg17
      have hp16 := inR_true.1 hg16
      refine WL_qg rfl rfl hg17 rfl (ev_fieldAddr fo26_2 rfl) ?_
      refine WL_qg rfl rfl hg17 rfl (ev_load one3 rfl (hB1.cell rfl)) ?_
      refine WL_mg rfl rfl hg17 rfl (ev_call rfl (l1In_spec _ _ _ _)) ?_
      rintro _ _ ⟨rfl, rfl⟩
      refine WL_qg rfl rfl hg17 rfl (ev_not rfl) ?_
      refine WL_q rfl (ev_pick_f rfl hg17 rfl) ?_
      refine WL_nil ?_
      refine thenE_n ?_
      refine W_cond rfl (fun hg23 => ?_) (fun hg23 => ?_)
      · have hg22 := not_true hg23
        have hp22 := inR_false.1 hg22
        refine W_seq ?_
        refine W_region ?_
        refine WL_q rfl (ev_assign rfl) ?_
        refine WL_nil ?_
        refine thenE_n ?_
        refine W_ret ?_
        refine thenE_r ?_
        refine ret1 rfl rfl ?_
        first | (exact ⟨false, rfl, ffI fun hk => by obtain ⟨k1, k2, k3, k4, k5, k6, k7, k8, k9, k10, k11, k12⟩ := hk; omega, hE⟩) | (refine ⟨false, rfl, ffI fun hk => ?_, hE⟩; have h0 := headD_eq (show 0 < m.start.length by omega); have k8 := hk.head; rw [h0] at k8; omega) | (refine ⟨false, rfl, ffI fun hk => ?_, hE⟩; have k1 := hk.output; exact tf hg66 k1) | (refine ⟨false, rfl, ffI fun hk => ?_, hE⟩; obtain ⟨k, k1⟩ := hk.start _ (List.getElem_mem (show i < m.start.length by omega)); rw [headD_eq (show 0 < m.start.length by omega)] at k; exact and_f hg84 k k1) | (refine ⟨false, rfl, ffI fun hk => ?_, hE⟩; obtain ⟨k, k1⟩ := hk.send _ (List.getElem_mem (show k < m.send.length by omega)); exact and_f hg99 k k1) | (refine ⟨false, rfl, ffI fun hk => ?_, hE⟩; obtain ⟨k, k0, k3, k1⟩ := hk.clauses _ (List.getElem_mem (show q < m.clauses.length by omega)); first | omega | exact tf hg139 k1) | (exact ⟨_, rfl, ttI ⟨hp11, hp16, hp22, by omega, by omega, by omega, by omega, by rw [headD_eq (by omega)]; omega, all_of_idx (p := fun l : List Int => (l.length : Int) = (m.start.headD []).length ∧ allR l 0 (m.states - 1) = true) hJ1 (by omega), all_of_idx (p := fun l : List Int => (l.length : Int) = m.deg ∧ allR l 0 (m.msgs - 1) = true) hJ2 (by omega), all_of_idx (p := fun c : Cl => (0 ≤ c.1 ∧ c.1 ≤ m.states - 1) ∧ (0 ≤ c.2.2 ∧ c.2.2 ≤ m.states - 1) ∧ (c.2.1.length : Int) ≤ m.deg ∧ allR c.2.1 (-1) (m.msgs - 1) = true) hJ3 (by omega), hg66⟩, hE⟩)
      · have hg22 := not_false hg23
        have hp22 := inR_true.1 hg22
        refine W_skip ?_
        refine thenE_n ?_
        refine W_seq ?_
        refine W_seq ?_
        refine W_region ?_
        refine WL_q rfl (ev_fieldAddr fo26_3 rfl) ?_
        refine WL_q rfl (ev_load one22 rfl (hB1.cell rfl)) ?_
        refine WL_q rfl (ev_len Tryz.underlying22 rfl) ?_
        refine WL_q rfl (ev_fieldAddr fo26_0 rfl) ?_
        refine WL_q rfl (ev_load one3 rfl (hB1.cell rfl)) ?_
        refine WL_q rfl (ev_add rfl rfl (by omega)) ?_
        refine WL_q rfl (ev_neq rfl rfl) ?_
        refine WL_q rfl (ev_move rfl) ?_
        refine WL_splitv (t := 32) rfl (fun hg31 => ?_) (fun hg31 => ?_)
        · have hp31 := of_decide_eq_true hg31
          refine WL_no rfl rfl hg31 rfl ?_
          refine WL_no rfl rfl hg31 rfl ?_
          refine WL_no rfl rfl hg31 rfl ?_
          refine WL_no rfl rfl hg31 rfl ?_
          refine WL_no rfl rfl hg31 rfl ?_
          refine WL_no rfl rfl hg31 rfl ?_
          refine WL_no rfl rfl hg31 rfl ?_
          refine WL_q rfl (ev_pick_t rfl hg31 rfl) ?_
          refine WL_q rfl (ev_move rfl) ?_
          refine WL_no rfl rfl rfl rfl ?_
          refine WL_no rfl rfl rfl rfl ?_
          refine WL_no rfl rfl rfl rfl ?_
          refine WL_no rfl rfl rfl rfl ?_
          refine WL_no rfl rfl rfl rfl ?_
          refine WL_no rfl rfl rfl rfl ?_
          refine WL_q rfl (ev_pick_t rfl rfl rfl) ?_
          refine WL_q rfl (ev_move rfl) ?_
          refine WL_no rfl rfl rfl rfl ?_
          refine WL_no rfl rfl rfl rfl ?_
          refine WL_no rfl rfl rfl rfl ?_
          refine WL_no rfl rfl rfl rfl ?_
          refine WL_q rfl (ev_pick_t rfl rfl rfl) ?_
          refine WL_q rfl (ev_move rfl) ?_
          refine WL_no rfl rfl rfl rfl ?_
          refine WL_no rfl rfl rfl rfl ?_
          refine WL_no rfl rfl rfl rfl ?_
          refine WL_no rfl rfl rfl rfl ?_
          refine WL_no rfl rfl rfl rfl ?_
          refine WL_no rfl rfl rfl rfl ?_
          refine WL_q rfl (ev_pick_t rfl rfl rfl) ?_
          refine WL_q rfl (ev_move rfl) ?_
          refine WL_no rfl rfl rfl rfl ?_
          refine WL_no rfl rfl rfl rfl ?_
          refine WL_no rfl rfl rfl rfl ?_
          refine WL_no rfl rfl rfl rfl ?_
          refine WL_q rfl (ev_pick_t rfl rfl rfl) ?_
          refine WL_nil ?_
          refine thenE_n ?_
          refine W_cond_t rfl ?_
          refine W_seq ?_
          refine W_region ?_
          refine WL_q rfl (ev_assign rfl) ?_
          refine WL_nil ?_
          refine thenE_n ?_
          refine W_ret ?_
          refine thenE_r ?_
          refine ret1 rfl rfl ?_
          first | (exact ⟨false, rfl, ffI fun hk => by obtain ⟨k1, k2, k3, k4, k5, k6, k7, k8, k9, k10, k11, k12⟩ := hk; omega, hE⟩) | (refine ⟨false, rfl, ffI fun hk => ?_, hE⟩; have h0 := headD_eq (show 0 < m.start.length by omega); have k8 := hk.head; rw [h0] at k8; omega) | (refine ⟨false, rfl, ffI fun hk => ?_, hE⟩; have k1 := hk.output; exact tf hg66 k1) | (refine ⟨false, rfl, ffI fun hk => ?_, hE⟩; obtain ⟨k, k1⟩ := hk.start _ (List.getElem_mem (show i < m.start.length by omega)); rw [headD_eq (show 0 < m.start.length by omega)] at k; exact and_f hg84 k k1) | (refine ⟨false, rfl, ffI fun hk => ?_, hE⟩; obtain ⟨k, k1⟩ := hk.send _ (List.getElem_mem (show k < m.send.length by omega)); exact and_f hg99 k k1) | (refine ⟨false, rfl, ffI fun hk => ?_, hE⟩; obtain ⟨k, k0, k3, k1⟩ := hk.clauses _ (List.getElem_mem (show q < m.clauses.length by omega)); first | omega | exact tf hg139 k1) | (exact ⟨_, rfl, ttI ⟨hp11, hp16, hp22, by omega, by omega, by omega, by omega, by rw [headD_eq (by omega)]; omega, all_of_idx (p := fun l : List Int => (l.length : Int) = (m.start.headD []).length ∧ allR l 0 (m.states - 1) = true) hJ1 (by omega), all_of_idx (p := fun l : List Int => (l.length : Int) = m.deg ∧ allR l 0 (m.msgs - 1) = true) hJ2 (by omega), all_of_idx (p := fun c : Cl => (0 ≤ c.1 ∧ c.1 ≤ m.states - 1) ∧ (0 ≤ c.2.2 ∧ c.2.2 ≤ m.states - 1) ∧ (c.2.1.length : Int) ≤ m.deg ∧ allR c.2.1 (-1) (m.msgs - 1) = true) hJ3 (by omega), hg66⟩, hE⟩)
        · have hp31 := of_decide_eq_false hg31
          refine WL_qg rfl rfl hg31 rfl (ev_fieldAddr fo26_3 rfl) ?_
          refine WL_qg rfl rfl hg31 rfl (ev_load one22 rfl (hB1.cell rfl)) ?_
          obtain ⟨a3, c3, hc3, hr3⟩ := hM.start.row (i := 0) (by omega)
          refine WL_qg rfl rfl hg31 rfl (ev_indexAddr Tryz.underlying22 sz24 rfl rfl (hM.start.isSome (by omega)) (by omega) (by omega)) ?_
          refine WL_qg rfl rfl hg31 rfl (ev_load one24 rfl (hc3)) ?_
          refine WL_qg rfl rfl hg31 rfl (ev_len Tryz.underlying24 rfl) ?_
          refine WL_mg rfl rfl hg31 rfl (ev_call rfl (l1In_spec _ _ _ _)) ?_
          rintro _ _ ⟨rfl, rfl⟩
          refine WL_qg rfl rfl hg31 rfl (ev_not rfl) ?_
          refine WL_q rfl (ev_pick_f rfl hg31 rfl) ?_
          refine WL_q rfl (ev_move rfl) ?_
          refine WL_splitv (t := 41) rfl (fun hg39 => ?_) (fun hg39 => ?_)
          · have hg38 := not_true hg39
            have hp38 := inR_false.1 hg38
            refine WL_no rfl rfl hg39 rfl ?_
            refine WL_no rfl rfl hg39 rfl ?_
            refine WL_no rfl rfl hg39 rfl ?_
            refine WL_no rfl rfl hg39 rfl ?_
            refine WL_no rfl rfl hg39 rfl ?_
            refine WL_no rfl rfl hg39 rfl ?_
            refine WL_q rfl (ev_pick_t rfl hg39 rfl) ?_
            refine WL_q rfl (ev_move rfl) ?_
            refine WL_no rfl rfl rfl rfl ?_
            refine WL_no rfl rfl rfl rfl ?_
            refine WL_no rfl rfl rfl rfl ?_
            refine WL_no rfl rfl rfl rfl ?_
            refine WL_q rfl (ev_pick_t rfl rfl rfl) ?_
            refine WL_q rfl (ev_move rfl) ?_
            refine WL_no rfl rfl rfl rfl ?_
            refine WL_no rfl rfl rfl rfl ?_
            refine WL_no rfl rfl rfl rfl ?_
            refine WL_no rfl rfl rfl rfl ?_
            refine WL_no rfl rfl rfl rfl ?_
            refine WL_no rfl rfl rfl rfl ?_
            refine WL_q rfl (ev_pick_t rfl rfl rfl) ?_
            refine WL_q rfl (ev_move rfl) ?_
            refine WL_no rfl rfl rfl rfl ?_
            refine WL_no rfl rfl rfl rfl ?_
            refine WL_no rfl rfl rfl rfl ?_
            refine WL_no rfl rfl rfl rfl ?_
            refine WL_q rfl (ev_pick_t rfl rfl rfl) ?_
            refine WL_nil ?_
            refine thenE_n ?_
            refine W_cond_t rfl ?_
            refine W_seq ?_
            refine W_region ?_
            refine WL_q rfl (ev_assign rfl) ?_
            refine WL_nil ?_
            refine thenE_n ?_
            refine W_ret ?_
            refine thenE_r ?_
            refine ret1 rfl rfl ?_
            first | (exact ⟨false, rfl, ffI fun hk => by obtain ⟨k1, k2, k3, k4, k5, k6, k7, k8, k9, k10, k11, k12⟩ := hk; omega, hE⟩) | (refine ⟨false, rfl, ffI fun hk => ?_, hE⟩; have h0 := headD_eq (show 0 < m.start.length by omega); have k8 := hk.head; rw [h0] at k8; omega) | (refine ⟨false, rfl, ffI fun hk => ?_, hE⟩; have k1 := hk.output; exact tf hg66 k1) | (refine ⟨false, rfl, ffI fun hk => ?_, hE⟩; obtain ⟨k, k1⟩ := hk.start _ (List.getElem_mem (show i < m.start.length by omega)); rw [headD_eq (show 0 < m.start.length by omega)] at k; exact and_f hg84 k k1) | (refine ⟨false, rfl, ffI fun hk => ?_, hE⟩; obtain ⟨k, k1⟩ := hk.send _ (List.getElem_mem (show k < m.send.length by omega)); exact and_f hg99 k k1) | (refine ⟨false, rfl, ffI fun hk => ?_, hE⟩; obtain ⟨k, k0, k3, k1⟩ := hk.clauses _ (List.getElem_mem (show q < m.clauses.length by omega)); first | omega | exact tf hg139 k1) | (exact ⟨_, rfl, ttI ⟨hp11, hp16, hp22, by omega, by omega, by omega, by omega, by rw [headD_eq (by omega)]; omega, all_of_idx (p := fun l : List Int => (l.length : Int) = (m.start.headD []).length ∧ allR l 0 (m.states - 1) = true) hJ1 (by omega), all_of_idx (p := fun l : List Int => (l.length : Int) = m.deg ∧ allR l 0 (m.msgs - 1) = true) hJ2 (by omega), all_of_idx (p := fun c : Cl => (0 ≤ c.1 ∧ c.1 ≤ m.states - 1) ∧ (0 ≤ c.2.2 ∧ c.2.2 ≤ m.states - 1) ∧ (c.2.1.length : Int) ≤ m.deg ∧ allR c.2.1 (-1) (m.msgs - 1) = true) hJ3 (by omega), hg66⟩, hE⟩)
          · have hg38 := not_false hg39
            have hp38 := inR_true.1 hg38
            refine WL_qg rfl rfl hg39 rfl (ev_fieldAddr fo26_4 rfl) ?_
            refine WL_qg rfl rfl hg39 rfl (ev_load one22 rfl (hB1.cell rfl)) ?_
            refine WL_qg rfl rfl hg39 rfl (ev_len Tryz.underlying22 rfl) ?_
            refine WL_qg rfl rfl hg39 rfl (ev_fieldAddr fo26_1 rfl) ?_
            refine WL_qg rfl rfl hg39 rfl (ev_load one3 rfl (hB1.cell rfl)) ?_
            refine WL_qg rfl rfl hg39 rfl (ev_neq rfl rfl) ?_
            refine WL_q rfl (ev_pick_f rfl hg39 rfl) ?_
            refine WL_q rfl (ev_move rfl) ?_
            refine WL_splitv (t := 49) rfl (fun hg47 => ?_) (fun hg47 => ?_)
            · have hp47 := of_decide_eq_true hg47
              refine WL_no rfl rfl hg47 rfl ?_
              refine WL_no rfl rfl hg47 rfl ?_
              refine WL_no rfl rfl hg47 rfl ?_
              refine WL_no rfl rfl hg47 rfl ?_
              refine WL_q rfl (ev_pick_t rfl hg47 rfl) ?_
              refine WL_q rfl (ev_move rfl) ?_
              refine WL_no rfl rfl rfl rfl ?_
              refine WL_no rfl rfl rfl rfl ?_
              refine WL_no rfl rfl rfl rfl ?_
              refine WL_no rfl rfl rfl rfl ?_
              refine WL_no rfl rfl rfl rfl ?_
              refine WL_no rfl rfl rfl rfl ?_
              refine WL_q rfl (ev_pick_t rfl rfl rfl) ?_
              refine WL_q rfl (ev_move rfl) ?_
              refine WL_no rfl rfl rfl rfl ?_
              refine WL_no rfl rfl rfl rfl ?_
              refine WL_no rfl rfl rfl rfl ?_
              refine WL_no rfl rfl rfl rfl ?_
              refine WL_q rfl (ev_pick_t rfl rfl rfl) ?_
              refine WL_nil ?_
              refine thenE_n ?_
              refine W_cond_t rfl ?_
              refine W_seq ?_
              refine W_region ?_
              refine WL_q rfl (ev_assign rfl) ?_
              refine WL_nil ?_
              refine thenE_n ?_
              refine W_ret ?_
              refine thenE_r ?_
              refine ret1 rfl rfl ?_
              first | (exact ⟨false, rfl, ffI fun hk => by obtain ⟨k1, k2, k3, k4, k5, k6, k7, k8, k9, k10, k11, k12⟩ := hk; omega, hE⟩) | (refine ⟨false, rfl, ffI fun hk => ?_, hE⟩; have h0 := headD_eq (show 0 < m.start.length by omega); have k8 := hk.head; rw [h0] at k8; omega) | (refine ⟨false, rfl, ffI fun hk => ?_, hE⟩; have k1 := hk.output; exact tf hg66 k1) | (refine ⟨false, rfl, ffI fun hk => ?_, hE⟩; obtain ⟨k, k1⟩ := hk.start _ (List.getElem_mem (show i < m.start.length by omega)); rw [headD_eq (show 0 < m.start.length by omega)] at k; exact and_f hg84 k k1) | (refine ⟨false, rfl, ffI fun hk => ?_, hE⟩; obtain ⟨k, k1⟩ := hk.send _ (List.getElem_mem (show k < m.send.length by omega)); exact and_f hg99 k k1) | (refine ⟨false, rfl, ffI fun hk => ?_, hE⟩; obtain ⟨k, k0, k3, k1⟩ := hk.clauses _ (List.getElem_mem (show q < m.clauses.length by omega)); first | omega | exact tf hg139 k1) | (exact ⟨_, rfl, ttI ⟨hp11, hp16, hp22, by omega, by omega, by omega, by omega, by rw [headD_eq (by omega)]; omega, all_of_idx (p := fun l : List Int => (l.length : Int) = (m.start.headD []).length ∧ allR l 0 (m.states - 1) = true) hJ1 (by omega), all_of_idx (p := fun l : List Int => (l.length : Int) = m.deg ∧ allR l 0 (m.msgs - 1) = true) hJ2 (by omega), all_of_idx (p := fun c : Cl => (0 ≤ c.1 ∧ c.1 ≤ m.states - 1) ∧ (0 ≤ c.2.2 ∧ c.2.2 ≤ m.states - 1) ∧ (c.2.1.length : Int) ≤ m.deg ∧ allR c.2.1 (-1) (m.msgs - 1) = true) hJ3 (by omega), hg66⟩, hE⟩)
            · have hp47 := of_decide_eq_false hg47
              refine WL_qg rfl rfl hg47 rfl (ev_fieldAddr fo26_5 rfl) ?_
              refine WL_qg rfl rfl hg47 rfl (ev_load one23 rfl (hB1.cell rfl)) ?_
              refine WL_qg rfl rfl hg47 rfl (ev_len Tryz.underlying23 rfl) ?_
              refine WL_qg rfl rfl hg47 rfl (ev_gtr rfl rfl) ?_
              refine WL_q rfl (ev_pick_f rfl hg47 rfl) ?_
              refine WL_q rfl (ev_move rfl) ?_
              refine WL_splitv (t := 55) rfl (fun hg53 => ?_) (fun hg53 => ?_)
              · have hp53 := of_decide_eq_true hg53
                refine WL_no rfl rfl hg53 rfl ?_
                refine WL_no rfl rfl hg53 rfl ?_
                refine WL_no rfl rfl hg53 rfl ?_
                refine WL_no rfl rfl hg53 rfl ?_
                refine WL_no rfl rfl hg53 rfl ?_
                refine WL_no rfl rfl hg53 rfl ?_
                refine WL_q rfl (ev_pick_t rfl hg53 rfl) ?_
                refine WL_q rfl (ev_move rfl) ?_
                refine WL_no rfl rfl rfl rfl ?_
                refine WL_no rfl rfl rfl rfl ?_
                refine WL_no rfl rfl rfl rfl ?_
                refine WL_no rfl rfl rfl rfl ?_
                refine WL_q rfl (ev_pick_t rfl rfl rfl) ?_
                refine WL_nil ?_
                refine thenE_n ?_
                refine W_cond_t rfl ?_
                refine W_seq ?_
                refine W_region ?_
                refine WL_q rfl (ev_assign rfl) ?_
                refine WL_nil ?_
                refine thenE_n ?_
                refine W_ret ?_
                refine thenE_r ?_
                refine ret1 rfl rfl ?_
                first | (exact ⟨false, rfl, ffI fun hk => by obtain ⟨k1, k2, k3, k4, k5, k6, k7, k8, k9, k10, k11, k12⟩ := hk; omega, hE⟩) | (refine ⟨false, rfl, ffI fun hk => ?_, hE⟩; have h0 := headD_eq (show 0 < m.start.length by omega); have k8 := hk.head; rw [h0] at k8; omega) | (refine ⟨false, rfl, ffI fun hk => ?_, hE⟩; have k1 := hk.output; exact tf hg66 k1) | (refine ⟨false, rfl, ffI fun hk => ?_, hE⟩; obtain ⟨k, k1⟩ := hk.start _ (List.getElem_mem (show i < m.start.length by omega)); rw [headD_eq (show 0 < m.start.length by omega)] at k; exact and_f hg84 k k1) | (refine ⟨false, rfl, ffI fun hk => ?_, hE⟩; obtain ⟨k, k1⟩ := hk.send _ (List.getElem_mem (show k < m.send.length by omega)); exact and_f hg99 k k1) | (refine ⟨false, rfl, ffI fun hk => ?_, hE⟩; obtain ⟨k, k0, k3, k1⟩ := hk.clauses _ (List.getElem_mem (show q < m.clauses.length by omega)); first | omega | exact tf hg139 k1) | (exact ⟨_, rfl, ttI ⟨hp11, hp16, hp22, by omega, by omega, by omega, by omega, by rw [headD_eq (by omega)]; omega, all_of_idx (p := fun l : List Int => (l.length : Int) = (m.start.headD []).length ∧ allR l 0 (m.states - 1) = true) hJ1 (by omega), all_of_idx (p := fun l : List Int => (l.length : Int) = m.deg ∧ allR l 0 (m.msgs - 1) = true) hJ2 (by omega), all_of_idx (p := fun c : Cl => (0 ≤ c.1 ∧ c.1 ≤ m.states - 1) ∧ (0 ≤ c.2.2 ∧ c.2.2 ≤ m.states - 1) ∧ (c.2.1.length : Int) ≤ m.deg ∧ allR c.2.1 (-1) (m.msgs - 1) = true) hJ3 (by omega), hg66⟩, hE⟩)
              · have hp53 := of_decide_eq_false hg53
                refine WL_qg rfl rfl hg53 rfl (ev_fieldAddr fo26_6 rfl) ?_
                refine WL_qg rfl rfl hg53 rfl (ev_load one24 rfl (hB1.cell rfl)) ?_
                refine WL_qg rfl rfl hg53 rfl (ev_len Tryz.underlying24 rfl) ?_
                refine WL_qg rfl rfl hg53 rfl (ev_fieldAddr fo26_1 rfl) ?_
                refine WL_qg rfl rfl hg53 rfl (ev_load one3 rfl (hB1.cell rfl)) ?_
                refine WL_qg rfl rfl hg53 rfl (ev_neq rfl rfl) ?_
                refine WL_q rfl (ev_pick_f rfl hg53 rfl) ?_
                refine WL_q rfl (ev_move rfl) ?_
                refine WL_splitv (t := 63) rfl (fun hg61 => ?_) (fun hg61 => ?_)
                · have hp61 := of_decide_eq_true hg61
                  refine WL_no rfl rfl hg61 rfl ?_
                  refine WL_no rfl rfl hg61 rfl ?_
                  refine WL_no rfl rfl hg61 rfl ?_
                  refine WL_no rfl rfl hg61 rfl ?_
                  refine WL_q rfl (ev_pick_t rfl hg61 rfl) ?_
                  refine WL_nil ?_
                  refine thenE_n ?_
                  refine W_cond_t rfl ?_
                  refine W_seq ?_
                  refine W_region ?_
                  refine WL_q rfl (ev_assign rfl) ?_
                  refine WL_nil ?_
                  refine thenE_n ?_
                  refine W_ret ?_
                  refine thenE_r ?_
                  refine ret1 rfl rfl ?_
                  first | (exact ⟨false, rfl, ffI fun hk => by obtain ⟨k1, k2, k3, k4, k5, k6, k7, k8, k9, k10, k11, k12⟩ := hk; omega, hE⟩) | (refine ⟨false, rfl, ffI fun hk => ?_, hE⟩; have h0 := headD_eq (show 0 < m.start.length by omega); have k8 := hk.head; rw [h0] at k8; omega) | (refine ⟨false, rfl, ffI fun hk => ?_, hE⟩; have k1 := hk.output; exact tf hg66 k1) | (refine ⟨false, rfl, ffI fun hk => ?_, hE⟩; obtain ⟨k, k1⟩ := hk.start _ (List.getElem_mem (show i < m.start.length by omega)); rw [headD_eq (show 0 < m.start.length by omega)] at k; exact and_f hg84 k k1) | (refine ⟨false, rfl, ffI fun hk => ?_, hE⟩; obtain ⟨k, k1⟩ := hk.send _ (List.getElem_mem (show k < m.send.length by omega)); exact and_f hg99 k k1) | (refine ⟨false, rfl, ffI fun hk => ?_, hE⟩; obtain ⟨k, k0, k3, k1⟩ := hk.clauses _ (List.getElem_mem (show q < m.clauses.length by omega)); first | omega | exact tf hg139 k1) | (exact ⟨_, rfl, ttI ⟨hp11, hp16, hp22, by omega, by omega, by omega, by omega, by rw [headD_eq (by omega)]; omega, all_of_idx (p := fun l : List Int => (l.length : Int) = (m.start.headD []).length ∧ allR l 0 (m.states - 1) = true) hJ1 (by omega), all_of_idx (p := fun l : List Int => (l.length : Int) = m.deg ∧ allR l 0 (m.msgs - 1) = true) hJ2 (by omega), all_of_idx (p := fun c : Cl => (0 ≤ c.1 ∧ c.1 ≤ m.states - 1) ∧ (0 ≤ c.2.2 ∧ c.2.2 ≤ m.states - 1) ∧ (c.2.1.length : Int) ≤ m.deg ∧ allR c.2.1 (-1) (m.msgs - 1) = true) hJ3 (by omega), hg66⟩, hE⟩)
                · have hp61 := of_decide_eq_false hg61
                  refine WL_qg rfl rfl hg61 rfl (ev_fieldAddr fo26_6 rfl) ?_
                  refine WL_qg rfl rfl hg61 rfl (ev_load one24 rfl (hB1.cell rfl)) ?_
                  refine WL_mg rfl rfl hg61 rfl (ev_call rfl (l1All_spec _ _ _ _ _ _ hM.output (by omega))) ?_
                  rintro _ w66 ⟨rfl, hE66⟩
                  have hz66 := hE66.size
                  replace hE := hE.trans hE66
                  replace hM := hM.ext hE66
                  replace hB1 := hB1.ext hE66
                  refine WL_qg rfl rfl hg61 rfl (ev_not rfl) ?_
                  refine WL_q rfl (ev_pick_f rfl hg61 rfl) ?_
                  refine WL_nil ?_
                  refine thenE_n ?_
                  refine W_cond rfl (fun hg67 => ?_) (fun hg67 => ?_)
                  · have hg66 := not_true hg67
                    refine W_seq ?_
                    refine W_region ?_
                    refine WL_q rfl (ev_assign rfl) ?_
                    refine WL_nil ?_
                    refine thenE_n ?_
                    refine W_ret ?_
                    refine thenE_r ?_
                    refine ret1 rfl rfl ?_
                    first | (exact ⟨false, rfl, ffI fun hk => by obtain ⟨k1, k2, k3, k4, k5, k6, k7, k8, k9, k10, k11, k12⟩ := hk; omega, hE⟩) | (refine ⟨false, rfl, ffI fun hk => ?_, hE⟩; have h0 := headD_eq (show 0 < m.start.length by omega); have k8 := hk.head; rw [h0] at k8; omega) | (refine ⟨false, rfl, ffI fun hk => ?_, hE⟩; have k1 := hk.output; exact tf hg66 k1) | (refine ⟨false, rfl, ffI fun hk => ?_, hE⟩; obtain ⟨k, k1⟩ := hk.start _ (List.getElem_mem (show i < m.start.length by omega)); rw [headD_eq (show 0 < m.start.length by omega)] at k; exact and_f hg84 k k1) | (refine ⟨false, rfl, ffI fun hk => ?_, hE⟩; obtain ⟨k, k1⟩ := hk.send _ (List.getElem_mem (show k < m.send.length by omega)); exact and_f hg99 k k1) | (refine ⟨false, rfl, ffI fun hk => ?_, hE⟩; obtain ⟨k, k0, k3, k1⟩ := hk.clauses _ (List.getElem_mem (show q < m.clauses.length by omega)); first | omega | exact tf hg139 k1) | (exact ⟨_, rfl, ttI ⟨hp11, hp16, hp22, by omega, by omega, by omega, by omega, by rw [headD_eq (by omega)]; omega, all_of_idx (p := fun l : List Int => (l.length : Int) = (m.start.headD []).length ∧ allR l 0 (m.states - 1) = true) hJ1 (by omega), all_of_idx (p := fun l : List Int => (l.length : Int) = m.deg ∧ allR l 0 (m.msgs - 1) = true) hJ2 (by omega), all_of_idx (p := fun c : Cl => (0 ≤ c.1 ∧ c.1 ≤ m.states - 1) ∧ (0 ≤ c.2.2 ∧ c.2.2 ≤ m.states - 1) ∧ (c.2.1.length : Int) ≤ m.deg ∧ allR c.2.1 (-1) (m.msgs - 1) = true) hJ3 (by omega), hg66⟩, hE⟩)
                  · have hg66 := not_false hg67
                    refine W_skip ?_
                    refine thenE_n ?_
                    refine W_seq ?_
                    refine W_seq ?_
                    refine W_region ?_
                    refine WL_q rfl (ev_fieldAddr fo26_3 rfl) ?_
                    refine WL_q rfl (ev_load one22 rfl (hB1.cell rfl)) ?_
                    refine WL_q rfl (ev_len Tryz.underlying22 rfl) ?_
                    refine WL_q rfl (ev_move rfl) ?_
                    refine WL_nil ?_
                    refine thenE_n ?_
                    refine W_block ?_
                    refine W_loopC (G := Nat) [(1, _), (70, _), (71, _)] ((Subs.c rfl (Subs.c rfl (Subs.c rfl Subs.n)))) (fun i => [(72, VI (i : Int))]) (fun i w' => Ext w66 w' ∧ i ≤ m.start.length ∧ ∀ j (_h : j < i) (h2 : j < m.start.length), (fun l : List Int => (l.length : Int) = (m.start.headD []).length ∧ allR l 0 (m.states - 1) = true) m.start[j]) (fun i => m.start.length - i) 0 ((Subs.c (lkI rfl (by omega)) Subs.n)) (⟨Ext.refl _, ⟨by omega, fun j h => by omega⟩⟩) ?_
                    rintro i wL0 ⟨hRL0, hJ1l, hJ1⟩
                    have hzL0 := hRL0.size
                    replace hE := hE.trans hRL0
                    replace hM := hM.ext hRL0
                    replace hB1 := hB1.ext hRL0
                    refine W_seq ?_
                    refine W_region ?_
                    refine WL_q rfl (ev_lss rfl rfl) ?_
                    refine WL_nil ?_
                    refine thenE_n ?_
                    refine W_seq ?_
                    refine W_cond rfl (fun hg73 => ?_) (fun hg73 => ?_)
                    · have hp73 := of_decide_eq_true hg73
                      refine W_skip ?_
                      refine thenE_n ?_
                      refine W_seq ?_
                      refine W_block ?_
                      refine W_seq ?_
                      refine W_region ?_
                      have ht1 := totL_le (show i < m.start.length by omega)
                      obtain ⟨a2, c2, hc2, hr2⟩ := hM.start.row (i := i) (by omega)
                      refine WL_q rfl (ev_indexAddr Tryz.underlying22 sz24 rfl rfl (hM.start.isSome (by omega)) (by omega) (by omega)) ?_
                      refine WL_q rfl (ev_load one24 rfl (hc2)) ?_
                      refine WL_q rfl (ev_assign rfl) ?_
                      refine WL_nil ?_
                      refine thenE_n ?_
                      refine W_seq ?_
                      refine W_drawE [(0, true), (1, true), (2, true), (3, true), (4, true), (5, true), (6, true), (7, true), (8, false), (9, true)] mixed (by kernel_rfl) rfl (by kernel_rfl) ?_
                      intro wd8 hEd8 hzd8
                      replace hE := hE.trans hEd8
                      replace hRL0 := hRL0.trans hEd8
                      replace hM := hM.ext hEd8
                      replace hB1 := hB1.ext hEd8
                      replace hr2 := hr2.ext hEd8
                      obtain ⟨a6, c6, hc6, hr6⟩ := hM.start.row (i := 0) (by omega)
                      have hDd8 := Ext.refl wd8
                      refine PW_q rfl rfl (fun wq hq => ev_move rfl) ?_
                      refine PW_q rfl rfl (fun wq hq => ev_fieldAddr fo26_3 rfl) ?_
                      refine PW_q rfl rfl (fun wq hq => ev_load one22 rfl (hq.cell (hB1.cell rfl))) ?_
                      refine PW_q rfl rfl (fun wq hq => ev_indexAddr Tryz.underlying22 sz24 rfl rfl (hM.start.isSome (by omega)) (by omega) (by omega)) ?_
                      refine PW_q rfl rfl (fun wq hq => ev_load one24 rfl (hq.cell (hc6))) ?_
                      refine PW_q rfl rfl (fun wq hq => ev_len Tryz.underlying24 rfl) ?_
                      refine PW_q rfl rfl (fun wq hq => ev_fieldAddr fo26_1 rfl) ?_
                      refine PW_q rfl rfl (fun wq hq => ev_load one3 rfl (hq.cell (hB1.cell rfl))) ?_
                      refine PW_m rfl rfl (ev_call rfl (maRow_spec _ _ _ _ _ _ hr2 (by omega) (by omega))) ?_
                      rintro _ w84 ⟨rfl, hE84⟩
                      have hz84 := hE84.size
                      replace hE := hE.trans hE84
                      replace hRL0 := hRL0.trans hE84
                      replace hDd8 := hDd8.trans hE84
                      refine ⟨hDd8, ?_⟩
                      refine PW_q rfl rfl (fun wq hq => ev_not rfl) ?_
                      replace hM := hM.ext hDd8
                      replace hB1 := hB1.ext hDd8
                      replace hr2 := hr2.ext hDd8
                      refine PW_nil ?_
                      refine thenE_n ?_
                      refine W_cond rfl (fun hg85 => ?_) (fun hg85 => ?_)
                      · have hg84 := not_true hg85
                        refine W_seq ?_
                        refine W_region ?_
                        refine WL_q rfl (ev_assign rfl) ?_
                        refine WL_nil ?_
                        refine thenE_n ?_
                        refine W_ret ?_
                        refine blockE_r ?_
                        refine thenE_r ?_
                        refine thenE_r ?_
                        refine blockE_r ?_
                        refine thenE_r ?_
                        refine ret1 rfl rfl ?_
                        first | (exact ⟨false, rfl, ffI fun hk => by obtain ⟨k1, k2, k3, k4, k5, k6, k7, k8, k9, k10, k11, k12⟩ := hk; omega, hE⟩) | (refine ⟨false, rfl, ffI fun hk => ?_, hE⟩; have h0 := headD_eq (show 0 < m.start.length by omega); have k8 := hk.head; rw [h0] at k8; omega) | (refine ⟨false, rfl, ffI fun hk => ?_, hE⟩; have k1 := hk.output; exact tf hg66 k1) | (refine ⟨false, rfl, ffI fun hk => ?_, hE⟩; obtain ⟨k, k1⟩ := hk.start _ (List.getElem_mem (show i < m.start.length by omega)); rw [headD_eq (show 0 < m.start.length by omega)] at k; exact and_f hg84 k k1) | (refine ⟨false, rfl, ffI fun hk => ?_, hE⟩; obtain ⟨k, k1⟩ := hk.send _ (List.getElem_mem (show k < m.send.length by omega)); exact and_f hg99 k k1) | (refine ⟨false, rfl, ffI fun hk => ?_, hE⟩; obtain ⟨k, k0, k3, k1⟩ := hk.clauses _ (List.getElem_mem (show q < m.clauses.length by omega)); first | omega | exact tf hg139 k1) | (exact ⟨_, rfl, ttI ⟨hp11, hp16, hp22, by omega, by omega, by omega, by omega, by rw [headD_eq (by omega)]; omega, all_of_idx (p := fun l : List Int => (l.length : Int) = (m.start.headD []).length ∧ allR l 0 (m.states - 1) = true) hJ1 (by omega), all_of_idx (p := fun l : List Int => (l.length : Int) = m.deg ∧ allR l 0 (m.msgs - 1) = true) hJ2 (by omega), all_of_idx (p := fun c : Cl => (0 ≤ c.1 ∧ c.1 ≤ m.states - 1) ∧ (0 ≤ c.2.2 ∧ c.2.2 ≤ m.states - 1) ∧ (c.2.1.length : Int) ≤ m.deg ∧ allR c.2.1 (-1) (m.msgs - 1) = true) hJ3 (by omega), hg66⟩, hE⟩)
                      · have hg84 := not_false hg85
                        refine W_skip ?_
                        refine blockE_n ?_
                        refine thenE_n ?_
                        refine W_region ?_
                        refine WL_q rfl (ev_add rfl rfl (by omega)) ?_
                        refine WL_q rfl (ev_move rfl) ?_
                        refine WL_nil ?_
                        refine thenE_n ?_
                        exact ⟨i + 1, (Subs.c rfl (Subs.c rfl (Subs.c rfl Subs.n))), (Subs.c (lkI rfl (by omega)) Subs.n), ⟨hRL0, ⟨by omega, idx_succ (p := fun l : List Int => (l.length : Int) = (m.start.headD []).length ∧ allR l 0 (m.states - 1) = true) hJ1 (by omega) ⟨by rw [headD_eq (by omega)]; have := and_l hg84; omega, and_r hg84⟩⟩⟩, by first | omega | (dsimp only; omega)⟩
                    · have hp73 := of_decide_eq_false hg73
                      refine W_exit ?_
                      refine thenE_x ?_
                      refine thenE_x ?_
                      refine blockE_hit ?_
                      refine thenE_n ?_
                      refine W_seq ?_
                      refine W_seq ?_
                      refine W_region ?_
                      refine WL_q rfl (ev_fieldAddr fo26_4 rfl) ?_
                      refine WL_q rfl (ev_load one22 rfl (hB1.cell rfl)) ?_
                      refine WL_q rfl (ev_len Tryz.underlying22 rfl) ?_
                      refine WL_q rfl (ev_move rfl) ?_
                      refine WL_nil ?_
                      refine thenE_n ?_
                      refine W_block ?_
                      refine W_loopC (G := Nat) [(1, _), (88, _), (89, _)] ((Subs.c rfl (Subs.c rfl (Subs.c rfl Subs.n)))) (fun k => [(90, VI (k : Int))]) (fun k w' => Ext wL0 w' ∧ k ≤ m.send.length ∧ ∀ j (_h : j < k) (h2 : j < m.send.length), (fun l : List Int => (l.length : Int) = m.deg ∧ allR l 0 (m.msgs - 1) = true) m.send[j]) (fun k => m.send.length - k) 0 ((Subs.c (lkI rfl (by omega)) Subs.n)) (⟨Ext.refl _, ⟨by omega, fun j h => by omega⟩⟩) ?_
                      rintro k wL2 ⟨hRL2, hJ2l, hJ2⟩
                      have hzL2 := hRL2.size
                      replace hE := hE.trans hRL2
                      replace hM := hM.ext hRL2
                      replace hB1 := hB1.ext hRL2
                      refine W_seq ?_
                      refine W_region ?_
                      refine WL_q rfl (ev_lss rfl rfl) ?_
                      refine WL_nil ?_
                      refine thenE_n ?_
                      refine W_seq ?_
                      refine W_cond rfl (fun hg91 => ?_) (fun hg91 => ?_)
                      · have hp91 := of_decide_eq_true hg91
                        refine W_skip ?_
                        refine thenE_n ?_
                        refine W_seq ?_
                        refine W_block ?_
                        refine W_seq ?_
                        refine W_region ?_
                        have ht2 := totL_le (show k < m.send.length by omega)
                        obtain ⟨a4, c4, hc4, hr4⟩ := hM.send.row (i := k) (by omega)
                        refine WL_q rfl (ev_indexAddr Tryz.underlying22 sz24 rfl rfl (hM.send.isSome (by omega)) (by omega) (by omega)) ?_
                        refine WL_q rfl (ev_load one24 rfl (hc4)) ?_
                        refine WL_q rfl (ev_assign rfl) ?_
                        refine WL_nil ?_
                        refine thenE_n ?_
                        refine W_seq ?_
                        refine W_region ?_
                        refine WL_q rfl (ev_move rfl) ?_
                        refine WL_q rfl (ev_fieldAddr fo26_0 rfl) ?_
                        refine WL_q rfl (ev_load one3 rfl (hB1.cell rfl)) ?_
                        refine WL_q rfl (ev_fieldAddr fo26_2 rfl) ?_
                        refine WL_q rfl (ev_load one3 rfl (hB1.cell rfl)) ?_
                        refine WL_m rfl (ev_call rfl (maRow_spec _ _ _ _ _ _ hr4 (by omega) (by omega))) ?_
                        rintro _ w99 ⟨rfl, hE99⟩
                        have hz99 := hE99.size
                        replace hE := hE.trans hE99
                        replace hRL2 := hRL2.trans hE99
                        replace hM := hM.ext hE99
                        replace hB1 := hB1.ext hE99
                        replace hr4 := hr4.ext hE99
                        refine WL_q rfl (ev_not rfl) ?_
                        refine WL_nil ?_
                        refine thenE_n ?_
                        refine W_cond rfl (fun hg100 => ?_) (fun hg100 => ?_)
                        · have hg99 := not_true hg100
                          refine W_seq ?_
                          refine W_region ?_
                          refine WL_q rfl (ev_assign rfl) ?_
                          refine WL_nil ?_
                          refine thenE_n ?_
                          refine W_ret ?_
                          refine blockE_r ?_
                          refine thenE_r ?_
                          refine thenE_r ?_
                          refine blockE_r ?_
                          refine thenE_r ?_
                          refine ret1 rfl rfl ?_
                          first | (exact ⟨false, rfl, ffI fun hk => by obtain ⟨k1, k2, k3, k4, k5, k6, k7, k8, k9, k10, k11, k12⟩ := hk; omega, hE⟩) | (refine ⟨false, rfl, ffI fun hk => ?_, hE⟩; have h0 := headD_eq (show 0 < m.start.length by omega); have k8 := hk.head; rw [h0] at k8; omega) | (refine ⟨false, rfl, ffI fun hk => ?_, hE⟩; have k1 := hk.output; exact tf hg66 k1) | (refine ⟨false, rfl, ffI fun hk => ?_, hE⟩; obtain ⟨k, k1⟩ := hk.start _ (List.getElem_mem (show i < m.start.length by omega)); rw [headD_eq (show 0 < m.start.length by omega)] at k; exact and_f hg84 k k1) | (refine ⟨false, rfl, ffI fun hk => ?_, hE⟩; obtain ⟨k, k1⟩ := hk.send _ (List.getElem_mem (show k < m.send.length by omega)); exact and_f hg99 k k1) | (refine ⟨false, rfl, ffI fun hk => ?_, hE⟩; obtain ⟨k, k0, k3, k1⟩ := hk.clauses _ (List.getElem_mem (show q < m.clauses.length by omega)); first | omega | exact tf hg139 k1) | (exact ⟨_, rfl, ttI ⟨hp11, hp16, hp22, by omega, by omega, by omega, by omega, by rw [headD_eq (by omega)]; omega, all_of_idx (p := fun l : List Int => (l.length : Int) = (m.start.headD []).length ∧ allR l 0 (m.states - 1) = true) hJ1 (by omega), all_of_idx (p := fun l : List Int => (l.length : Int) = m.deg ∧ allR l 0 (m.msgs - 1) = true) hJ2 (by omega), all_of_idx (p := fun c : Cl => (0 ≤ c.1 ∧ c.1 ≤ m.states - 1) ∧ (0 ≤ c.2.2 ∧ c.2.2 ≤ m.states - 1) ∧ (c.2.1.length : Int) ≤ m.deg ∧ allR c.2.1 (-1) (m.msgs - 1) = true) hJ3 (by omega), hg66⟩, hE⟩)
                        · have hg99 := not_false hg100
                          refine W_skip ?_
                          refine blockE_n ?_
                          refine thenE_n ?_
                          refine W_region ?_
                          refine WL_q rfl (ev_add rfl rfl (by omega)) ?_
                          refine WL_q rfl (ev_move rfl) ?_
                          refine WL_nil ?_
                          refine thenE_n ?_
                          exact ⟨k + 1, (Subs.c rfl (Subs.c rfl (Subs.c rfl Subs.n))), (Subs.c (lkI rfl (by omega)) Subs.n), ⟨hRL2, ⟨by omega, idx_succ (p := fun l : List Int => (l.length : Int) = m.deg ∧ allR l 0 (m.msgs - 1) = true) hJ2 (by omega) ⟨and_l hg99, and_r hg99⟩⟩⟩, by first | omega | (dsimp only; omega)⟩
                      · have hp91 := of_decide_eq_false hg91
                        refine W_exit ?_
                        refine thenE_x ?_
                        refine thenE_x ?_
                        refine blockE_hit ?_
                        refine thenE_n ?_
                        refine W_seq ?_
                        refine W_seq ?_
                        refine W_region ?_
                        refine WL_q rfl (ev_fieldAddr fo26_5 rfl) ?_
                        refine WL_q rfl (ev_load one23 rfl (hB1.cell rfl)) ?_
                        refine WL_q rfl (ev_len Tryz.underlying23 rfl) ?_
                        refine WL_q rfl (ev_move rfl) ?_
                        refine WL_nil ?_
                        refine thenE_n ?_
                        refine W_block ?_
                        refine W_loopC (G := Nat) [(1, _), (103, _), (104, _)] ((Subs.c rfl (Subs.c rfl (Subs.c rfl Subs.n)))) (fun q => [(105, VI (q : Int))]) (fun q w' => Ext wL2 w' ∧ q ≤ m.clauses.length ∧ ∀ j (_h : j < q) (h2 : j < m.clauses.length), (fun c : Cl => (0 ≤ c.1 ∧ c.1 ≤ m.states - 1) ∧ (0 ≤ c.2.2 ∧ c.2.2 ≤ m.states - 1) ∧ (c.2.1.length : Int) ≤ m.deg ∧ allR c.2.1 (-1) (m.msgs - 1) = true) m.clauses[j]) (fun q => m.clauses.length - q) 0 ((Subs.c (lkI rfl (by omega)) Subs.n)) (⟨Ext.refl _, ⟨by omega, fun j h => by omega⟩⟩) ?_
                        rintro q wL4 ⟨hRL4, hJ3l, hJ3⟩
                        have hzL4 := hRL4.size
                        replace hE := hE.trans hRL4
                        replace hM := hM.ext hRL4
                        replace hB1 := hB1.ext hRL4
                        refine W_seq ?_
                        refine W_region ?_
                        refine WL_q rfl (ev_lss rfl rfl) ?_
                        refine WL_nil ?_
                        refine thenE_n ?_
                        refine W_seq ?_
                        refine W_cond rfl (fun hg106 => ?_) (fun hg106 => ?_)
                        · have hp106 := of_decide_eq_true hg106
                          refine W_skip ?_
                          refine thenE_n ?_
                          refine W_seq ?_
                          refine W_block ?_
                          refine W_seq ?_
                          refine W_region ?_
                          have ht3 := totC_le (show q < m.clauses.length by omega)
                          obtain ⟨a5, c5, hc5, hr5⟩ := hM.clauses.cl (i := q) (by omega)
                          refine WL_q rfl (ev_indexAddr Tryz.underlying23 sz40 rfl rfl (hM.clauses.isSome (by omega)) (by omega) (by omega)) ?_
                          refine WL_q rfl (ev_loads st40 sz40 rfl (hc5) rfl) ?_
                          refine WL_m rfl (ev_alloc zr40) ?_
                          rintro _ w8 ⟨rfl, hN8⟩
                          have hz8 := hN8.size
                          replace hE := hE.trans hN8.ext
                          replace hRL4 := hRL4.trans hN8.ext
                          replace hM := hM.ext hN8.ext
                          replace hB1 := hB1.ext hN8.ext
                          replace hr5 := hr5.ext hN8.ext
                          have hB8 : Blk w8 _ _ [_, _, _] := hN8.blk
                          refine WL_s (ev_stores sz40 rfl rfl rfl (by simp [Value.oneCell']) hB8 (by simp)) ?_
                          rintro _ w19_3 hS19_3
                          have hz19_3 := hS19_3.size
                          replace hE := hE.sto hS19_3 (by omega)
                          replace hRL4 := hRL4.sto hS19_3 (by omega)
                          replace hM := hM.sto hS19_3 (by omega)
                          replace hB1 := hB1.sto hS19_3 (by omega)
                          replace hr5 := hr5.sto hS19_3 (by omega)
                          replace hB8 : Blk w19_3 _ _ [_, _, _] := hS19_3.blk
                          refine WL_nil ?_
                          refine thenE_n ?_
                          refine W_seq ?_
                          refine W_region ?_
                          refine WL_q rfl (ev_fieldAddr fo40_0 rfl) ?_
                          refine WL_q rfl (ev_load one3 rfl (hB8.cell rfl)) ?_
                          refine WL_q rfl (ev_fieldAddr fo26_1 rfl) ?_
                          refine WL_q rfl (ev_load one3 rfl (hB1.cell rfl)) ?_
                          refine WL_q rfl (ev_sub rfl rfl (by omega)) ?_
                          refine WL_m rfl (ev_call rfl (l1In_spec _ _ _ _)) ?_
                          rintro _ _ ⟨rfl, rfl⟩
                          refine WL_q rfl (ev_not rfl) ?_
                          refine WL_q rfl (ev_move rfl) ?_
                          refine WL_splitv (t := 116) rfl (fun hg115 => ?_) (fun hg115 => ?_)
                          · have hg114 := not_true hg115
                            have hp114 := inR_false.1 hg114
                            refine WL_no rfl rfl hg115 rfl ?_
                            refine WL_no rfl rfl hg115 rfl ?_
                            refine WL_no rfl rfl hg115 rfl ?_
                            refine WL_no rfl rfl hg115 rfl ?_
                            refine WL_no rfl rfl hg115 rfl ?_
                            refine WL_no rfl rfl hg115 rfl ?_
                            refine WL_no rfl rfl hg115 rfl ?_
                            refine WL_q rfl (ev_pick_t rfl hg115 rfl) ?_
                            refine WL_q rfl (ev_move rfl) ?_
                            refine WL_no rfl rfl rfl rfl ?_
                            refine WL_no rfl rfl rfl rfl ?_
                            refine WL_no rfl rfl rfl rfl ?_
                            refine WL_no rfl rfl rfl rfl ?_
                            refine WL_no rfl rfl rfl rfl ?_
                            refine WL_no rfl rfl rfl rfl ?_
                            refine WL_q rfl (ev_pick_t rfl rfl rfl) ?_
                            refine WL_q rfl (ev_move rfl) ?_
                            refine WL_no rfl rfl rfl rfl ?_
                            refine WL_no rfl rfl rfl rfl ?_
                            refine WL_no rfl rfl rfl rfl ?_
                            refine WL_no rfl rfl rfl rfl ?_
                            refine WL_no rfl rfl rfl rfl ?_
                            refine WL_no rfl rfl rfl rfl ?_
                            refine WL_no rfl rfl rfl rfl ?_
                            refine WL_q rfl (ev_pick_t rfl rfl rfl) ?_
                            refine WL_nil ?_
                            refine thenE_n ?_
                            refine W_cond_t rfl ?_
                            refine W_seq ?_
                            refine W_region ?_
                            refine WL_q rfl (ev_assign rfl) ?_
                            refine WL_nil ?_
                            refine thenE_n ?_
                            refine W_ret ?_
                            refine blockE_r ?_
                            refine thenE_r ?_
                            refine thenE_r ?_
                            refine blockE_r ?_
                            refine thenE_r ?_
                            refine ret1 rfl rfl ?_
                            first | (exact ⟨false, rfl, ffI fun hk => by obtain ⟨k1, k2, k3, k4, k5, k6, k7, k8, k9, k10, k11, k12⟩ := hk; omega, hE⟩) | (refine ⟨false, rfl, ffI fun hk => ?_, hE⟩; have h0 := headD_eq (show 0 < m.start.length by omega); have k8 := hk.head; rw [h0] at k8; omega) | (refine ⟨false, rfl, ffI fun hk => ?_, hE⟩; have k1 := hk.output; exact tf hg66 k1) | (refine ⟨false, rfl, ffI fun hk => ?_, hE⟩; obtain ⟨k, k1⟩ := hk.start _ (List.getElem_mem (show i < m.start.length by omega)); rw [headD_eq (show 0 < m.start.length by omega)] at k; exact and_f hg84 k k1) | (refine ⟨false, rfl, ffI fun hk => ?_, hE⟩; obtain ⟨k, k1⟩ := hk.send _ (List.getElem_mem (show k < m.send.length by omega)); exact and_f hg99 k k1) | (refine ⟨false, rfl, ffI fun hk => ?_, hE⟩; obtain ⟨k, k0, k3, k1⟩ := hk.clauses _ (List.getElem_mem (show q < m.clauses.length by omega)); first | omega | exact tf hg139 k1) | (exact ⟨_, rfl, ttI ⟨hp11, hp16, hp22, by omega, by omega, by omega, by omega, by rw [headD_eq (by omega)]; omega, all_of_idx (p := fun l : List Int => (l.length : Int) = (m.start.headD []).length ∧ allR l 0 (m.states - 1) = true) hJ1 (by omega), all_of_idx (p := fun l : List Int => (l.length : Int) = m.deg ∧ allR l 0 (m.msgs - 1) = true) hJ2 (by omega), all_of_idx (p := fun c : Cl => (0 ≤ c.1 ∧ c.1 ≤ m.states - 1) ∧ (0 ≤ c.2.2 ∧ c.2.2 ≤ m.states - 1) ∧ (c.2.1.length : Int) ≤ m.deg ∧ allR c.2.1 (-1) (m.msgs - 1) = true) hJ3 (by omega), hg66⟩, hE⟩)
                          · have hg114 := not_false hg115
                            have hp114 := inR_true.1 hg114
                            refine WL_qg rfl rfl hg115 rfl (ev_fieldAddr fo40_2 rfl) ?_
                            refine WL_qg rfl rfl hg115 rfl (ev_load one3 rfl (hB8.cell rfl)) ?_
                            refine WL_qg rfl rfl hg115 rfl (ev_fieldAddr fo26_1 rfl) ?_
                            refine WL_qg rfl rfl hg115 rfl (ev_load one3 rfl (hB1.cell rfl)) ?_
                            refine WL_qg rfl rfl hg115 rfl (ev_sub rfl rfl (by omega)) ?_
                            refine WL_mg rfl rfl hg115 rfl (ev_call rfl (l1In_spec _ _ _ _)) ?_
                            rintro _ _ ⟨rfl, rfl⟩
                            refine WL_qg rfl rfl hg115 rfl (ev_not rfl) ?_
                            refine WL_q rfl (ev_pick_f rfl hg115 rfl) ?_
                            refine WL_q rfl (ev_move rfl) ?_
                            refine WL_splitv (t := 125) rfl (fun hg123 => ?_) (fun hg123 => ?_)
                            · have hg122 := not_true hg123
                              have hp122 := inR_false.1 hg122
                              refine WL_no rfl rfl hg123 rfl ?_
                              refine WL_no rfl rfl hg123 rfl ?_
                              refine WL_no rfl rfl hg123 rfl ?_
                              refine WL_no rfl rfl hg123 rfl ?_
                              refine WL_no rfl rfl hg123 rfl ?_
                              refine WL_no rfl rfl hg123 rfl ?_
                              refine WL_q rfl (ev_pick_t rfl hg123 rfl) ?_
                              refine WL_q rfl (ev_move rfl) ?_
                              refine WL_no rfl rfl rfl rfl ?_
                              refine WL_no rfl rfl rfl rfl ?_
                              refine WL_no rfl rfl rfl rfl ?_
                              refine WL_no rfl rfl rfl rfl ?_
                              refine WL_no rfl rfl rfl rfl ?_
                              refine WL_no rfl rfl rfl rfl ?_
                              refine WL_no rfl rfl rfl rfl ?_
                              refine WL_q rfl (ev_pick_t rfl rfl rfl) ?_
                              refine WL_nil ?_
                              refine thenE_n ?_
                              refine W_cond_t rfl ?_
                              refine W_seq ?_
                              refine W_region ?_
                              refine WL_q rfl (ev_assign rfl) ?_
                              refine WL_nil ?_
                              refine thenE_n ?_
                              refine W_ret ?_
                              refine blockE_r ?_
                              refine thenE_r ?_
                              refine thenE_r ?_
                              refine blockE_r ?_
                              refine thenE_r ?_
                              refine ret1 rfl rfl ?_
                              first | (exact ⟨false, rfl, ffI fun hk => by obtain ⟨k1, k2, k3, k4, k5, k6, k7, k8, k9, k10, k11, k12⟩ := hk; omega, hE⟩) | (refine ⟨false, rfl, ffI fun hk => ?_, hE⟩; have h0 := headD_eq (show 0 < m.start.length by omega); have k8 := hk.head; rw [h0] at k8; omega) | (refine ⟨false, rfl, ffI fun hk => ?_, hE⟩; have k1 := hk.output; exact tf hg66 k1) | (refine ⟨false, rfl, ffI fun hk => ?_, hE⟩; obtain ⟨k, k1⟩ := hk.start _ (List.getElem_mem (show i < m.start.length by omega)); rw [headD_eq (show 0 < m.start.length by omega)] at k; exact and_f hg84 k k1) | (refine ⟨false, rfl, ffI fun hk => ?_, hE⟩; obtain ⟨k, k1⟩ := hk.send _ (List.getElem_mem (show k < m.send.length by omega)); exact and_f hg99 k k1) | (refine ⟨false, rfl, ffI fun hk => ?_, hE⟩; obtain ⟨k, k0, k3, k1⟩ := hk.clauses _ (List.getElem_mem (show q < m.clauses.length by omega)); first | omega | exact tf hg139 k1) | (exact ⟨_, rfl, ttI ⟨hp11, hp16, hp22, by omega, by omega, by omega, by omega, by rw [headD_eq (by omega)]; omega, all_of_idx (p := fun l : List Int => (l.length : Int) = (m.start.headD []).length ∧ allR l 0 (m.states - 1) = true) hJ1 (by omega), all_of_idx (p := fun l : List Int => (l.length : Int) = m.deg ∧ allR l 0 (m.msgs - 1) = true) hJ2 (by omega), all_of_idx (p := fun c : Cl => (0 ≤ c.1 ∧ c.1 ≤ m.states - 1) ∧ (0 ≤ c.2.2 ∧ c.2.2 ≤ m.states - 1) ∧ (c.2.1.length : Int) ≤ m.deg ∧ allR c.2.1 (-1) (m.msgs - 1) = true) hJ3 (by omega), hg66⟩, hE⟩)
                            · have hg122 := not_false hg123
                              have hp122 := inR_true.1 hg122
                              refine WL_qg rfl rfl hg123 rfl (ev_fieldAddr fo40_1 rfl) ?_
                              refine WL_qg rfl rfl hg123 rfl (ev_load one24 rfl (hB8.cell rfl)) ?_
                              refine WL_qg rfl rfl hg123 rfl (ev_len Tryz.underlying24 rfl) ?_
                              refine WL_qg rfl rfl hg123 rfl (ev_fieldAddr fo26_0 rfl) ?_
                              refine WL_qg rfl rfl hg123 rfl (ev_load one3 rfl (hB1.cell rfl)) ?_
                              refine WL_qg rfl rfl hg123 rfl (ev_gtr rfl rfl) ?_
                              refine WL_q rfl (ev_pick_f rfl hg123 rfl) ?_
                              refine WL_q rfl (ev_move rfl) ?_
                              refine WL_splitv (t := 133) rfl (fun hg131 => ?_) (fun hg131 => ?_)
                              · have hp131 := of_decide_eq_true hg131
                                refine WL_no rfl rfl hg131 rfl ?_
                                refine WL_no rfl rfl hg131 rfl ?_
                                refine WL_no rfl rfl hg131 rfl ?_
                                refine WL_no rfl rfl hg131 rfl ?_
                                refine WL_no rfl rfl hg131 rfl ?_
                                refine WL_no rfl rfl hg131 rfl ?_
                                refine WL_no rfl rfl hg131 rfl ?_
                                refine WL_q rfl (ev_pick_t rfl hg131 rfl) ?_
                                refine WL_nil ?_
                                refine thenE_n ?_
                                refine W_cond_t rfl ?_
                                refine W_seq ?_
                                refine W_region ?_
                                refine WL_q rfl (ev_assign rfl) ?_
                                refine WL_nil ?_
                                refine thenE_n ?_
                                refine W_ret ?_
                                refine blockE_r ?_
                                refine thenE_r ?_
                                refine thenE_r ?_
                                refine blockE_r ?_
                                refine thenE_r ?_
                                refine ret1 rfl rfl ?_
                                first | (exact ⟨false, rfl, ffI fun hk => by obtain ⟨k1, k2, k3, k4, k5, k6, k7, k8, k9, k10, k11, k12⟩ := hk; omega, hE⟩) | (refine ⟨false, rfl, ffI fun hk => ?_, hE⟩; have h0 := headD_eq (show 0 < m.start.length by omega); have k8 := hk.head; rw [h0] at k8; omega) | (refine ⟨false, rfl, ffI fun hk => ?_, hE⟩; have k1 := hk.output; exact tf hg66 k1) | (refine ⟨false, rfl, ffI fun hk => ?_, hE⟩; obtain ⟨k, k1⟩ := hk.start _ (List.getElem_mem (show i < m.start.length by omega)); rw [headD_eq (show 0 < m.start.length by omega)] at k; exact and_f hg84 k k1) | (refine ⟨false, rfl, ffI fun hk => ?_, hE⟩; obtain ⟨k, k1⟩ := hk.send _ (List.getElem_mem (show k < m.send.length by omega)); exact and_f hg99 k k1) | (refine ⟨false, rfl, ffI fun hk => ?_, hE⟩; obtain ⟨k, k0, k3, k1⟩ := hk.clauses _ (List.getElem_mem (show q < m.clauses.length by omega)); first | omega | exact tf hg139 k1) | (exact ⟨_, rfl, ttI ⟨hp11, hp16, hp22, by omega, by omega, by omega, by omega, by rw [headD_eq (by omega)]; omega, all_of_idx (p := fun l : List Int => (l.length : Int) = (m.start.headD []).length ∧ allR l 0 (m.states - 1) = true) hJ1 (by omega), all_of_idx (p := fun l : List Int => (l.length : Int) = m.deg ∧ allR l 0 (m.msgs - 1) = true) hJ2 (by omega), all_of_idx (p := fun c : Cl => (0 ≤ c.1 ∧ c.1 ≤ m.states - 1) ∧ (0 ≤ c.2.2 ∧ c.2.2 ≤ m.states - 1) ∧ (c.2.1.length : Int) ≤ m.deg ∧ allR c.2.1 (-1) (m.msgs - 1) = true) hJ3 (by omega), hg66⟩, hE⟩)
                              · have hp131 := of_decide_eq_false hg131
                                refine WL_qg rfl rfl hg131 rfl (ev_fieldAddr fo40_1 rfl) ?_
                                refine WL_qg rfl rfl hg131 rfl (ev_load one24 rfl (hB8.cell rfl)) ?_
                                refine WL_qg rfl rfl hg131 rfl (ev_fieldAddr fo26_2 rfl) ?_
                                refine WL_qg rfl rfl hg131 rfl (ev_load one3 rfl (hB1.cell rfl)) ?_
                                refine WL_qg rfl rfl hg131 rfl (ev_sub rfl rfl (by omega)) ?_
                                refine WL_mg rfl rfl hg131 rfl (ev_call rfl (l1All_spec _ _ _ _ _ _ hr5 (by omega))) ?_
                                rintro _ w139 ⟨rfl, hE139⟩
                                have hz139 := hE139.size
                                replace hE := hE.trans hE139
                                replace hRL4 := hRL4.trans hE139
                                replace hM := hM.ext hE139
                                replace hB1 := hB1.ext hE139
                                replace hr5 := hr5.ext hE139
                                replace hB8 := hB8.ext hE139
                                refine WL_qg rfl rfl hg131 rfl (ev_not rfl) ?_
                                refine WL_q rfl (ev_pick_f rfl hg131 rfl) ?_
                                refine WL_nil ?_
                                refine thenE_n ?_
                                refine W_cond rfl (fun hg140 => ?_) (fun hg140 => ?_)
                                · have hg139 := not_true hg140
                                  refine W_seq ?_
                                  refine W_region ?_
                                  refine WL_q rfl (ev_assign rfl) ?_
                                  refine WL_nil ?_
                                  refine thenE_n ?_
                                  refine W_ret ?_
                                  refine blockE_r ?_
                                  refine thenE_r ?_
                                  refine thenE_r ?_
                                  refine blockE_r ?_
                                  refine thenE_r ?_
                                  refine ret1 rfl rfl ?_
                                  first | (exact ⟨false, rfl, ffI fun hk => by obtain ⟨k1, k2, k3, k4, k5, k6, k7, k8, k9, k10, k11, k12⟩ := hk; omega, hE⟩) | (refine ⟨false, rfl, ffI fun hk => ?_, hE⟩; have h0 := headD_eq (show 0 < m.start.length by omega); have k8 := hk.head; rw [h0] at k8; omega) | (refine ⟨false, rfl, ffI fun hk => ?_, hE⟩; have k1 := hk.output; exact tf hg66 k1) | (refine ⟨false, rfl, ffI fun hk => ?_, hE⟩; obtain ⟨k, k1⟩ := hk.start _ (List.getElem_mem (show i < m.start.length by omega)); rw [headD_eq (show 0 < m.start.length by omega)] at k; exact and_f hg84 k k1) | (refine ⟨false, rfl, ffI fun hk => ?_, hE⟩; obtain ⟨k, k1⟩ := hk.send _ (List.getElem_mem (show k < m.send.length by omega)); exact and_f hg99 k k1) | (refine ⟨false, rfl, ffI fun hk => ?_, hE⟩; obtain ⟨k, k0, k3, k1⟩ := hk.clauses _ (List.getElem_mem (show q < m.clauses.length by omega)); first | omega | exact tf hg139 k1) | (exact ⟨_, rfl, ttI ⟨hp11, hp16, hp22, by omega, by omega, by omega, by omega, by rw [headD_eq (by omega)]; omega, all_of_idx (p := fun l : List Int => (l.length : Int) = (m.start.headD []).length ∧ allR l 0 (m.states - 1) = true) hJ1 (by omega), all_of_idx (p := fun l : List Int => (l.length : Int) = m.deg ∧ allR l 0 (m.msgs - 1) = true) hJ2 (by omega), all_of_idx (p := fun c : Cl => (0 ≤ c.1 ∧ c.1 ≤ m.states - 1) ∧ (0 ≤ c.2.2 ∧ c.2.2 ≤ m.states - 1) ∧ (c.2.1.length : Int) ≤ m.deg ∧ allR c.2.1 (-1) (m.msgs - 1) = true) hJ3 (by omega), hg66⟩, hE⟩)
                                · have hg139 := not_false hg140
                                  refine W_skip ?_
                                  refine blockE_n ?_
                                  refine thenE_n ?_
                                  refine W_region ?_
                                  refine WL_q rfl (ev_add rfl rfl (by omega)) ?_
                                  refine WL_q rfl (ev_move rfl) ?_
                                  refine WL_nil ?_
                                  refine thenE_n ?_
                                  exact ⟨q + 1, (Subs.c rfl (Subs.c rfl (Subs.c rfl Subs.n))), (Subs.c (lkI rfl (by omega)) Subs.n), ⟨hRL4, ⟨by omega, idx_succ (p := fun c : Cl => (0 ≤ c.1 ∧ c.1 ≤ m.states - 1) ∧ (0 ≤ c.2.2 ∧ c.2.2 ≤ m.states - 1) ∧ (c.2.1.length : Int) ≤ m.deg ∧ allR c.2.1 (-1) (m.msgs - 1) = true) hJ3 (by omega) ⟨hp114, hp122, by omega, hg139⟩⟩⟩, by first | omega | (dsimp only; omega)⟩
                        · have hp106 := of_decide_eq_false hg106
                          refine W_exit ?_
                          refine thenE_x ?_
                          refine thenE_x ?_
                          refine blockE_hit ?_
                          refine thenE_n ?_
                          refine W_seq ?_
                          refine W_region ?_
                          refine WL_q rfl (ev_assign rfl) ?_
                          refine WL_nil ?_
                          refine thenE_n ?_
                          refine W_ret ?_
                          refine ret1 rfl rfl ?_
                          first | (exact ⟨false, rfl, ffI fun hk => by obtain ⟨k1, k2, k3, k4, k5, k6, k7, k8, k9, k10, k11, k12⟩ := hk; omega, hE⟩) | (refine ⟨false, rfl, ffI fun hk => ?_, hE⟩; have h0 := headD_eq (show 0 < m.start.length by omega); have k8 := hk.head; rw [h0] at k8; omega) | (refine ⟨false, rfl, ffI fun hk => ?_, hE⟩; have k1 := hk.output; exact tf hg66 k1) | (refine ⟨false, rfl, ffI fun hk => ?_, hE⟩; obtain ⟨k, k1⟩ := hk.start _ (List.getElem_mem (show i < m.start.length by omega)); rw [headD_eq (show 0 < m.start.length by omega)] at k; exact and_f hg84 k k1) | (refine ⟨false, rfl, ffI fun hk => ?_, hE⟩; obtain ⟨k, k1⟩ := hk.send _ (List.getElem_mem (show k < m.send.length by omega)); exact and_f hg99 k k1) | (refine ⟨false, rfl, ffI fun hk => ?_, hE⟩; obtain ⟨k, k0, k3, k1⟩ := hk.clauses _ (List.getElem_mem (show q < m.clauses.length by omega)); first | omega | exact tf hg139 k1) | (exact ⟨_, rfl, ttI ⟨hp11, hp16, hp22, by omega, by omega, by omega, by omega, by rw [headD_eq (by omega)]; omega, all_of_idx (p := fun l : List Int => (l.length : Int) = (m.start.headD []).length ∧ allR l 0 (m.states - 1) = true) hJ1 (by omega), all_of_idx (p := fun l : List Int => (l.length : Int) = m.deg ∧ allR l 0 (m.msgs - 1) = true) hJ2 (by omega), all_of_idx (p := fun c : Cl => (0 ≤ c.1 ∧ c.1 ≤ m.states - 1) ∧ (0 ≤ c.2.2 ∧ c.2.2 ≤ m.states - 1) ∧ (c.2.1.length : Int) ≤ m.deg ∧ allR c.2.1 (-1) (m.msgs - 1) = true) hJ3 (by omega), hg66⟩, hE⟩)

set_option maxRecDepth 100000 in
theorem eqMachine_spec {lo hi lo2 hi2 : Nat} (h h2 : MA) (m : Mach) (w : World) (hM : IsMach lo hi w h m) (hM2 : IsMach lo2 hi2 w h2 m) (hn : totM m ≤ 1048576) :
    Fn Tryz.prog 6 #[machV h m, machV h2 m] w (fun v w' => v = VB true ∧ Ext w w') := by
  unfold totM at hn
  have hE := Ext.refl w
  refine Fn_of Tryz.func6 rfl rfl (by kernel_rfl) rfl ?_
  refine W_seq ?_
  refine W_region ?_
  refine WL_m rfl (ev_box rfl) ?_
  rintro _ w2 ⟨rfl, hN2⟩
  have hz2 := hN2.size
  replace hE := hE.trans hN2.ext
  replace hM := hM.ext hN2.ext
  replace hM2 := hM2.ext hN2.ext
  have hB2 : Blk w2 _ _ [_, _, _, _, _, _, _] := hN2.blk
  refine WL_m rfl (ev_box rfl) ?_
  rintro _ w3 ⟨rfl, hN3⟩
  have hz3 := hN3.size
  replace hE := hE.trans hN3.ext
  replace hM := hM.ext hN3.ext
  replace hM2 := hM2.ext hN3.ext
  replace hB2 := hB2.ext hN3.ext
  have hB3 : Blk w3 _ _ [_, _, _, _, _, _, _] := hN3.blk
  refine WL_q rfl (ev_assign rfl) ?_
  refine WL_nil ?_
  refine thenE_n ?_
  refine W_seq ?_
  refine W_seq ?_
  refine W_region ?_
  refine WL_q rfl (ev_fieldAddr fo26_0 rfl) ?_
  refine WL_q rfl (ev_load one3 rfl (hB2.cell rfl)) ?_
  refine WL_q rfl (ev_fieldAddr fo26_0 rfl) ?_
  refine WL_q rfl (ev_load one3 rfl (hB3.cell rfl)) ?_
  refine WL_q rfl (ev_neq rfl rfl) ?_
  refine WL_nil ?_
  refine thenE_n ?_
  refine W_cond rfl (fun hg9 => ?_) (fun hg9 => ?_)
  · have hp9 := of_decide_eq_true hg9
    refine W_seq ?_
    refine W_region ?_
    refine WL_q rfl (ev_assign rfl) ?_
    refine WL_nil ?_
    refine thenE_n ?_
    refine W_ret ?_
    refine thenE_r ?_
    refine ret1 rfl rfl ?_
    first | (exact ⟨rfl, hE⟩) | (exact absurd rfl hp9) | (exact absurd rfl hp14) | (exact absurd rfl hp19) | (exact (decF hg24).elim) | (exact (decF hg30).elim) | (exact (decF hg36).elim) | (exact (decF hg42).elim)
  · have hp9 := of_decide_eq_false hg9
    refine W_skip ?_
    refine thenE_n ?_
    refine W_seq ?_
    refine W_seq ?_
    refine W_region ?_
    refine WL_q rfl (ev_fieldAddr fo26_1 rfl) ?_
    refine WL_q rfl (ev_load one3 rfl (hB2.cell rfl)) ?_
    refine WL_q rfl (ev_fieldAddr fo26_1 rfl) ?_
    refine WL_q rfl (ev_load one3 rfl (hB3.cell rfl)) ?_
    refine WL_q rfl (ev_neq rfl rfl) ?_
    refine WL_nil ?_
    refine thenE_n ?_
    refine W_cond rfl (fun hg14 => ?_) (fun hg14 => ?_)
    · have hp14 := of_decide_eq_true hg14
      refine W_seq ?_
      refine W_region ?_
      refine WL_q rfl (ev_assign rfl) ?_
      refine WL_nil ?_
      refine thenE_n ?_
      refine W_ret ?_
      refine thenE_r ?_
      refine ret1 rfl rfl ?_
      first | (exact ⟨rfl, hE⟩) | (exact absurd rfl hp9) | (exact absurd rfl hp14) | (exact absurd rfl hp19) | (exact (decF hg24).elim) | (exact (decF hg30).elim) | (exact (decF hg36).elim) | (exact (decF hg42).elim)
    · have hp14 := of_decide_eq_false hg14
      refine W_skip ?_
      refine thenE_n ?_
      refine W_seq ?_
      refine W_seq ?_
      refine W_region ?_
      refine WL_q rfl (ev_fieldAddr fo26_2 rfl) ?_
      refine WL_q rfl (ev_load one3 rfl (hB2.cell rfl)) ?_
      refine WL_q rfl (ev_fieldAddr fo26_2 rfl) ?_
      refine WL_q rfl (ev_load one3 rfl (hB3.cell rfl)) ?_
      refine WL_q rfl (ev_neq rfl rfl) ?_
      refine WL_nil ?_
      refine thenE_n ?_
      refine W_cond rfl (fun hg19 => ?_) (fun hg19 => ?_)
      · have hp19 := of_decide_eq_true hg19
        refine W_seq ?_
        refine W_region ?_
        refine WL_q rfl (ev_assign rfl) ?_
        refine WL_nil ?_
        refine thenE_n ?_
        refine W_ret ?_
        refine thenE_r ?_
        refine ret1 rfl rfl ?_
        first | (exact ⟨rfl, hE⟩) | (exact absurd rfl hp9) | (exact absurd rfl hp14) | (exact absurd rfl hp19) | (exact (decF hg24).elim) | (exact (decF hg30).elim) | (exact (decF hg36).elim) | (exact (decF hg42).elim)
      · have hp19 := of_decide_eq_false hg19
        refine W_skip ?_
        refine thenE_n ?_
        refine W_seq ?_
        refine W_seq ?_
        refine W_region ?_
        refine WL_q rfl (ev_fieldAddr fo26_3 rfl) ?_
        refine WL_q rfl (ev_load one22 rfl (hB2.cell rfl)) ?_
        refine WL_q rfl (ev_fieldAddr fo26_3 rfl) ?_
        refine WL_q rfl (ev_load one22 rfl (hB3.cell rfl)) ?_
        refine WL_m rfl (ev_call rfl (eqIntSS_spec _ _ _ _ _ _ _ hM.start hM2.start (by omega))) ?_
        rintro _ w24 ⟨rfl, hE24⟩
        have hz24 := hE24.size
        replace hE := hE.trans hE24
        replace hM := hM.ext hE24
        replace hM2 := hM2.ext hE24
        replace hB2 := hB2.ext hE24
        replace hB3 := hB3.ext hE24
        refine WL_q rfl (ev_not rfl) ?_
        refine WL_nil ?_
        refine thenE_n ?_
        refine W_cond rfl (fun hg25 => ?_) (fun hg25 => ?_)
        · have hg24 := not_true hg25
          refine W_seq ?_
          refine W_region ?_
          refine WL_q rfl (ev_assign rfl) ?_
          refine WL_nil ?_
          refine thenE_n ?_
          refine W_ret ?_
          refine thenE_r ?_
          refine ret1 rfl rfl ?_
          first | (exact ⟨rfl, hE⟩) | (exact absurd rfl hp9) | (exact absurd rfl hp14) | (exact absurd rfl hp19) | (exact (decF hg24).elim) | (exact (decF hg30).elim) | (exact (decF hg36).elim) | (exact (decF hg42).elim)
        · have hg24 := not_false hg25
          refine W_skip ?_
          refine thenE_n ?_
          refine W_seq ?_
          refine W_seq ?_
          refine W_region ?_
          refine WL_q rfl (ev_fieldAddr fo26_4 rfl) ?_
          refine WL_q rfl (ev_load one22 rfl (hB2.cell rfl)) ?_
          refine WL_q rfl (ev_fieldAddr fo26_4 rfl) ?_
          refine WL_q rfl (ev_load one22 rfl (hB3.cell rfl)) ?_
          refine WL_m rfl (ev_call rfl (eqIntSS_spec _ _ _ _ _ _ _ hM.send hM2.send (by omega))) ?_
          rintro _ w30 ⟨rfl, hE30⟩
          have hz30 := hE30.size
          replace hE := hE.trans hE30
          replace hM := hM.ext hE30
          replace hM2 := hM2.ext hE30
          replace hB2 := hB2.ext hE30
          replace hB3 := hB3.ext hE30
          refine WL_q rfl (ev_not rfl) ?_
          refine WL_nil ?_
          refine thenE_n ?_
          refine W_cond rfl (fun hg31 => ?_) (fun hg31 => ?_)
          · have hg30 := not_true hg31
            refine W_seq ?_
            refine W_region ?_
            refine WL_q rfl (ev_assign rfl) ?_
            refine WL_nil ?_
            refine thenE_n ?_
            refine W_ret ?_
            refine thenE_r ?_
            refine ret1 rfl rfl ?_
            first | (exact ⟨rfl, hE⟩) | (exact absurd rfl hp9) | (exact absurd rfl hp14) | (exact absurd rfl hp19) | (exact (decF hg24).elim) | (exact (decF hg30).elim) | (exact (decF hg36).elim) | (exact (decF hg42).elim)
          · have hg30 := not_false hg31
            refine W_skip ?_
            refine thenE_n ?_
            refine W_seq ?_
            refine W_seq ?_
            refine W_region ?_
            refine WL_q rfl (ev_fieldAddr fo26_5 rfl) ?_
            refine WL_q rfl (ev_load one23 rfl (hB2.cell rfl)) ?_
            refine WL_q rfl (ev_fieldAddr fo26_5 rfl) ?_
            refine WL_q rfl (ev_load one23 rfl (hB3.cell rfl)) ?_
            refine WL_m rfl (ev_call rfl (eqClauseS_spec _ _ _ _ _ _ _ hM.clauses hM2.clauses (by omega))) ?_
            rintro _ w36 ⟨rfl, hE36⟩
            have hz36 := hE36.size
            replace hE := hE.trans hE36
            replace hM := hM.ext hE36
            replace hM2 := hM2.ext hE36
            replace hB2 := hB2.ext hE36
            replace hB3 := hB3.ext hE36
            refine WL_q rfl (ev_not rfl) ?_
            refine WL_nil ?_
            refine thenE_n ?_
            refine W_cond rfl (fun hg37 => ?_) (fun hg37 => ?_)
            · have hg36 := not_true hg37
              refine W_seq ?_
              refine W_region ?_
              refine WL_q rfl (ev_assign rfl) ?_
              refine WL_nil ?_
              refine thenE_n ?_
              refine W_ret ?_
              refine thenE_r ?_
              refine ret1 rfl rfl ?_
              first | (exact ⟨rfl, hE⟩) | (exact absurd rfl hp9) | (exact absurd rfl hp14) | (exact absurd rfl hp19) | (exact (decF hg24).elim) | (exact (decF hg30).elim) | (exact (decF hg36).elim) | (exact (decF hg42).elim)
            · have hg36 := not_false hg37
              refine W_skip ?_
              refine thenE_n ?_
              refine W_seq ?_
              refine W_seq ?_
              refine W_region ?_
              refine WL_q rfl (ev_fieldAddr fo26_6 rfl) ?_
              refine WL_q rfl (ev_load one24 rfl (hB2.cell rfl)) ?_
              refine WL_q rfl (ev_fieldAddr fo26_6 rfl) ?_
              refine WL_q rfl (ev_load one24 rfl (hB3.cell rfl)) ?_
              refine WL_m rfl (ev_call rfl (eqIntS_spec _ _ _ _ _ _ _ hM.output hM2.output (by omega))) ?_
              rintro _ w42 ⟨rfl, hE42⟩
              have hz42 := hE42.size
              replace hE := hE.trans hE42
              replace hM := hM.ext hE42
              replace hM2 := hM2.ext hE42
              replace hB2 := hB2.ext hE42
              replace hB3 := hB3.ext hE42
              refine WL_q rfl (ev_not rfl) ?_
              refine WL_nil ?_
              refine thenE_n ?_
              refine W_cond rfl (fun hg43 => ?_) (fun hg43 => ?_)
              · have hg42 := not_true hg43
                refine W_seq ?_
                refine W_region ?_
                refine WL_q rfl (ev_assign rfl) ?_
                refine WL_nil ?_
                refine thenE_n ?_
                refine W_ret ?_
                refine thenE_r ?_
                refine ret1 rfl rfl ?_
                first | (exact ⟨rfl, hE⟩) | (exact absurd rfl hp9) | (exact absurd rfl hp14) | (exact absurd rfl hp19) | (exact (decF hg24).elim) | (exact (decF hg30).elim) | (exact (decF hg36).elim) | (exact (decF hg42).elim)
              · have hg42 := not_false hg43
                refine W_skip ?_
                refine thenE_n ?_
                refine W_seq ?_
                refine W_region ?_
                refine WL_q rfl (ev_assign rfl) ?_
                refine WL_nil ?_
                refine thenE_n ?_
                refine W_ret ?_
                refine ret1 rfl rfl ?_
                first | (exact ⟨rfl, hE⟩) | (exact absurd rfl hp9) | (exact absurd rfl hp14) | (exact absurd rfl hp19) | (exact (decF hg24).elim) | (exact (decF hg30).elim) | (exact (decF hg36).elim) | (exact (decF hg42).elim)

end Go.Proofs.YtdpdjbfjjlpfgaaGreatDoor
