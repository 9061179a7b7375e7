/- Contracts of IsMachine, of the program and of the reference, and of what they call. -/
import Derived.Test.YticlopepmnlkmaaData
import Derived.Test.YticlopepmnlkmaaLib
namespace Go.Proofs.Yticlopepmnlkmaa
open Go Go.RowKit

def allR (xs : List Int) (lo hi : Int) : Bool := xs.all fun x => inR x lo hi
theorem allR_true {xs : List Int} {lo hi : Int} : allR xs lo hi = true ↔ ∀ x ∈ xs, lo ≤ x ∧ x ≤ hi := by simp [allR, inR]
theorem allR_at {xs : List Int} {lo hi : Int} (h : allR xs lo hi = true) {i : Nat} (hi' : i < xs.length) : lo ≤ xs[i] ∧ xs[i] ≤ hi := allR_true.1 h _ (List.getElem_mem hi')
theorem allR_bad {xs : List Int} {lo hi : Int} {i : Nat} (hi' : i < xs.length) (h : inR xs[i] lo hi = false) : allR xs lo hi = false := by
  simp only [allR, List.all_eq_false]; exact ⟨_, List.getElem_mem hi', by rw [h]; simp⟩
theorem allR_good {xs : List Int} {lo hi : Int} (h : ∀ j (h2 : j < xs.length), inR xs[j] lo hi = true) : allR xs lo hi = true := by
  simp only [allR, List.all_eq_true]
  intro x hx
  obtain ⟨i, hi, rfl⟩ := List.mem_iff_getElem.1 hx
  exact h i hi
theorem allR_any (xs : List Int) (lo hi : Int) : (!(xs.any fun n => !inR n lo hi)) = allR xs lo hi := by simp [allR, List.any_eq_not_all_not]
theorem ffI {p : Prop} (h : ¬ p) : (false = true ↔ p) := ⟨fun e => by simp at e, fun hp => absurd hp h⟩
theorem ttI {p : Prop} (h : p) : (true = true ↔ p) := ⟨fun _ => h, fun _ => rfl⟩
theorem ttN {b : Bool} {p : Prop} (h : b = true ↔ p) (hb : b = false) : ¬ p := fun hp => by rw [h.2 hp] at hb; cases hb
theorem bool_eq_of {a b : Bool} {p : Prop} (h : a = true ↔ p) (k : b = true ↔ p) : a = b := by
  cases a <;> cases b <;> simp_all
theorem bneI {a b : Bool} {p : Prop} (ha : a = true ↔ p) (hb : b = true ↔ p) (h : (a != b) = true) : False := by rw [bool_eq_of ha hb] at h; simp at h

set_option maxRecDepth 100000 in
theorem allWithin_1 (n lo hi : Int) (b1 b2 : Nat) (T1 T2 : TypeId) (w : World) (h1 : Blk w b1 T1 [VI lo]) (h2 : Blk w b2 T2 [VI hi]) :
    Fn Try.prog 53 #[VI n, ptr b1 0, ptr b2 0] w (fun v w' => v = VB (!inR n lo hi) ∧ Ext w w') := by
  have hE := Ext.refl w
  refine Fn_of Try.func53 rfl rfl (by kernel_rfl) rfl ?_
  refine W_seq ?_
  refine W_region ?_
  refine WL_q rfl (ev_assign rfl) ?_
  refine WL_nil ?_
  refine thenE_n ?_
  refine W_seq ?_
  refine W_region ?_
  refine WL_q rfl (ev_move rfl) ?_
  refine WL_q rfl (ev_load one3 rfl (h1.cell rfl)) ?_
  refine WL_q rfl (ev_load one3 rfl (h2.cell rfl)) ?_
  refine WL_m rfl (ev_call rfl (within_spec _ _ _ _)) ?_
  rintro _ _ ⟨rfl, rfl⟩
  refine WL_q rfl (ev_not rfl) ?_
  refine WL_q rfl (ev_assign rfl) ?_
  refine WL_nil ?_
  refine thenE_n ?_
  refine W_ret ?_
  refine ret1 rfl rfl ?_
  exact ⟨rfl, hE⟩

set_option maxRecDepth 100000 in
theorem allWithin_spec {l r : Nat} (a : Option Addr) (c : Nat) (xs : List Int) (lo hi : Int) (w : World) (hx : Ints l r w a c xs) (hm : (xs.length : Int) < 9223372036854775807) :
    Fn Try.prog 46 #[.slice a xs.length c, VI lo, VI hi] w (fun v w' => v = VB (allR xs lo hi) ∧ Ext w w') := by
  have hE := Ext.refl w
  refine Fn_of Try.func46 rfl rfl (by kernel_rfl) rfl ?_
  refine W_seq ?_
  refine W_region ?_
  refine WL_m rfl (ev_box rfl) ?_
  rintro _ w4 ⟨rfl, hN4⟩
  have hz4 := hN4.size
  replace hE := hE.trans hN4.ext
  replace hx := hx.ext hN4.ext
  have hB4 : Blk w4 _ _ [_] := hN4.blk
  refine WL_m rfl (ev_box rfl) ?_
  rintro _ w5 ⟨rfl, hN5⟩
  have hz5 := hN5.size
  replace hE := hE.trans hN5.ext
  replace hx := hx.ext hN5.ext
  replace hB4 := hB4.ext hN5.ext
  have hB5 : Blk w5 _ _ [_] := hN5.blk
  refine WL_q rfl (ev_assign rfl) ?_
  refine WL_nil ?_
  refine thenE_n ?_
  refine W_seq ?_
  refine W_region ?_
  refine WL_q rfl (ev_move rfl) ?_
  refine WL_q rfl (ev_makeFunc rfl rfl) ?_
  refine WL_m rfl (ev_call rfl (ContainsFunc_int _ _ xs _ _ (fun n => !inR n lo hi) _ hx (by omega) (fun i h w1 hw => allWithin_1 _ lo hi _ _ _ _ w1 (hB4.ext hw) (hB5.ext hw)))) ?_
  rintro _ w9 ⟨rfl, hE9⟩
  have hz9 := hE9.size
  replace hE := hE.trans hE9
  replace hx := hx.ext hE9
  replace hB4 := hB4.ext hE9
  replace hB5 := hB5.ext hE9
  refine WL_q rfl (ev_not rfl) ?_
  refine WL_q rfl (ev_assign rfl) ?_
  refine WL_nil ?_
  refine thenE_n ?_
  refine W_ret ?_
  refine ret1 rfl rfl ?_
  exact ⟨vb (allR_any _ _ _), hE⟩

set_option maxRecDepth 100000 in
theorem l1All_spec {l r : Nat} (a : Option Addr) (c : Nat) (xs : List Int) (lo hi : Int) (w : World) (hx : Ints l r w a c xs) (hm : (xs.length : Int) < 9223372036854775807) :
    Fn Try.prog 41 #[.slice a xs.length c, VI lo, VI hi] w (fun v w' => v = VB (allR xs lo hi) ∧ Ext w w') := by
  have hE := Ext.refl w
  refine Fn_of Try.func41 rfl rfl (by kernel_rfl) rfl ?_
  refine W_seq ?_
  refine W_region ?_
  refine WL_q rfl (ev_assign rfl) ?_
  refine WL_nil ?_
  refine thenE_n ?_
  refine W_seq ?_
  refine W_seq ?_
  refine W_region ?_
  refine WL_q rfl (ev_move rfl) ?_
  refine WL_q rfl (ev_len Try.underlying23 rfl) ?_
  refine WL_q rfl (ev_move rfl) ?_
  refine WL_nil ?_
  refine thenE_n ?_
  refine W_block ?_
  refine W_loopC (G := Nat) [(1, _), (2, _), (9, _), (10, _)] ((Subs.c rfl (Subs.c rfl (Subs.c rfl (Subs.c rfl Subs.n))))) (fun i => [(11, VI (i : Int))]) (fun i w' => Ext w w' ∧ i ≤ xs.length ∧ ∀ j (_h : j < i) (h2 : j < xs.length), inR xs[j] lo hi = true) (fun i => xs.length - i) 0 ((Subs.c (lkI rfl (by omega)) Subs.n)) (⟨Ext.refl _, ⟨by omega, fun j h => by omega⟩⟩) ?_
  rintro i wL0 ⟨hRL0, hi', hJ⟩
  have hzL0 := hRL0.size
  replace hE := hE.trans hRL0
  replace hx := hx.ext hRL0
  refine W_seq ?_
  refine W_region ?_
  refine WL_q rfl (ev_lss rfl rfl) ?_
  refine WL_nil ?_
  refine thenE_n ?_
  refine W_seq ?_
  refine W_cond rfl (fun hg12 => ?_) (fun hg12 => ?_)
  · have hp12 := of_decide_eq_true hg12
    refine W_skip ?_
    refine thenE_n ?_
    refine W_seq ?_
    refine W_block ?_
    refine W_seq ?_
    refine W_region ?_
    refine WL_q rfl (ev_indexAddr Try.underlying23 sz3 rfl rfl (hx.isSome (by omega)) (by omega) (by omega)) ?_
    refine WL_q rfl (ev_load one3 rfl (hx.cell (i := i) (by omega))) ?_
    refine WL_q rfl (ev_assign rfl) ?_
    refine WL_nil ?_
    refine thenE_n ?_
    refine W_seq ?_
    refine W_region ?_
    refine WL_q rfl (ev_move rfl) ?_
    refine WL_q rfl (ev_move rfl) ?_
    refine WL_q rfl (ev_move rfl) ?_
    refine WL_m rfl (ev_call rfl (l1In_spec _ _ _ _)) ?_
    rintro _ _ ⟨rfl, rfl⟩
    refine WL_q rfl (ev_not rfl) ?_
    refine WL_nil ?_
    refine thenE_n ?_
    refine W_cond rfl (fun hg19 => ?_) (fun hg19 => ?_)
    · have hg18 := not_true hg19
      have hp18 := inR_false.1 hg18
      refine W_seq ?_
      refine W_region ?_
      refine WL_q rfl (ev_assign rfl) ?_
      refine WL_nil ?_
      refine thenE_n ?_
      refine W_ret ?_
      refine blockE_r ?_
      refine thenE_r ?_
      refine thenE_r ?_
      refine blockE_r ?_
      refine thenE_r ?_
      refine ret1 rfl rfl ?_
      first | exact ⟨vb (allR_bad (by omega) hg18).symm, hE⟩ | exact ⟨vb (allR_good fun j h2 => hJ j (by omega) h2).symm, hE⟩
    · have hg18 := not_false hg19
      have hp18 := inR_true.1 hg18
      refine W_skip ?_
      refine blockE_n ?_
      refine thenE_n ?_
      refine W_region ?_
      refine WL_q rfl (ev_add rfl rfl (by omega)) ?_
      refine WL_q rfl (ev_move rfl) ?_
      refine WL_nil ?_
      refine thenE_n ?_
      exact ⟨i + 1, (Subs.c rfl (Subs.c rfl (Subs.c rfl (Subs.c rfl Subs.n)))), (Subs.c (lkI rfl (by omega)) Subs.n), ⟨hRL0, ⟨by omega, fun j h1 h2 => by
    by_cases hj : j = i
    · subst hj; exact hg18
    · exact hJ j (by omega) h2⟩⟩, by first | omega | (dsimp only; omega)⟩
  · have hp12 := of_decide_eq_false hg12
    refine W_exit ?_
    refine thenE_x ?_
    refine thenE_x ?_
    refine blockE_hit ?_
    refine thenE_n ?_
    refine W_seq ?_
    refine W_region ?_
    refine WL_q rfl (ev_assign rfl) ?_
    refine WL_nil ?_
    refine thenE_n ?_
    refine W_ret ?_
    refine ret1 rfl rfl ?_
    first | exact ⟨vb (allR_bad (by omega) hg18).symm, hE⟩ | exact ⟨vb (allR_good fun j h2 => hJ j (by omega) h2).symm, hE⟩

/-- A valid machine. -/
structure MOk (m : Mach) : Prop where
  deg : 0 ≤ m.deg ∧ m.deg ≤ 6
  states : 1 ≤ m.states ∧ m.states ≤ 12
  msgs : 1 ≤ m.msgs ∧ m.msgs ≤ 6
  startLen : (m.start.length : Int) = m.deg + 1
  sendLen : (m.send.length : Int) = m.states
  outLen : (m.output.length : Int) = m.states
  clLen : (m.clauses.length : Int) ≤ 60
  head : 1 ≤ ((m.start.headD []).length : Int) ∧ ((m.start.headD []).length : Int) ≤ 10
  start : ∀ l ∈ m.start, (l.length : Int) = (m.start.headD []).length ∧ allR l 0 (m.states - 1) = true
  send : ∀ l ∈ m.send, (l.length : Int) = m.deg ∧ allR l 0 (m.msgs - 1) = true
  clauses : ∀ c ∈ m.clauses, (0 ≤ c.1 ∧ c.1 ≤ m.states - 1) ∧ (0 ≤ c.2.2 ∧ c.2.2 ≤ m.states - 1) ∧ (c.2.1.length : Int) ≤ m.deg ∧ allR c.2.1 (-1) (m.msgs - 1) = true
  output : allR m.output (-1) 9 = true
theorem tf {b : Bool} (h : b = false) (k : b = true) : False := by rw [h] at k; cases k
theorem and_l {p : Prop} [Decidable p] {b : Bool} (h : (decide p && b) = true) : p := by simp at h; exact h.1
theorem and_r {p : Prop} [Decidable p] {b : Bool} (h : (decide p && b) = true) : b = true := by simp at h; exact h.2
theorem and_f {p : Prop} [Decidable p] {b : Bool} (h : (decide p && b) = false) (hp : p) (hb : b = true) : False := by subst hb; simp [hp] at h
theorem headD_eq {α : Type} {l : List (List α)} (h : 0 < l.length) : l.headD [] = l[0] := by cases l with | nil => simp at h | cons x r => rfl
theorem all_of_idx {α : Type} {l : List α} {p : α → Prop} {i : Nat} (hJ : ∀ j (_h : j < i) (h2 : j < l.length), p l[j]) (hi : l.length ≤ i) : ∀ x ∈ l, p x := by
  intro x hx
  obtain ⟨j, hj, rfl⟩ := List.mem_iff_getElem.1 hx
  exact hJ j (by omega) hj
theorem idx_succ {α : Type} {l : List α} {p : α → Prop} {i : Nat} (hJ : ∀ j (_h : j < i) (h2 : j < l.length), p l[j]) (h : i < l.length) (hp : p l[i]) : ∀ j (_h : j < i + 1) (h2 : j < l.length), p l[j] := by
  intro j h1 h2
  by_cases hj : j = i
  · subst hj; exact hp
  · exact hJ j (by omega) h2

end Go.Proofs.Yticlopepmnlkmaa
