/- Contracts of FirstFaultOfRun, of the program and of the reference; the walk of FnExactFirstFaultOfRun. -/
import Derived.Test.YtebjcbgencenbaaStep2
namespace Go.Proofs.Ytebjcbgencenbaa
open Go Go.RowKit

/-- The states that a run should have in round t, after what it has in the round before. -/
noncomputable def exT (m : Mach) (A : Net) (l : List (List Int)) : Nat → List Int
  | 0 => stS m A
  | t + 1 => stepS m A (l.getD t [])
theorem exT_len (m : Mach) (A : Net) (l : List (List Int)) (t : Nat) : (exT m A l t).length = A.ends.length := by cases t with | zero => exact stS_len m A | succ t => exact stepS_len m A _
theorem exT_succ {m : Mach} {A : Net} {l : List (List Int)} {t : Nat} (h : t < l.length) : exT m A l (t + 1) = stepS m A l[t] := by show stepS m A (l.getD t []) = _; rw [getD_eq h]
def FAsk (m : Mach) (A : Net) (l : List (List Int)) : Prop := Fits m A ∧ inR (l.length : Int) 1 41 = true ∧ ∀ j (h : j < l.length), SOk m A l[j]
def Flt (m : Mach) (A : Net) (l : List (List Int)) (t v : Nat) : Prop := (l.getD t []).getD v 0 ≠ (exT m A l t).getD v 0
theorem Flt.iff {m : Mach} {A : Net} {l : List (List Int)} {t v : Nat} (h : t < l.length) (h1 : v < l[t].length) (h2 : v < (exT m A l t).length) : Flt m A l t v ↔ l[t][v] ≠ (exT m A l t)[v] := by unfold Flt; rw [getD_eq h, getD_eq h1, getD_eq h2]
def FF (m : Mach) (A : Net) (l : List (List Int)) (r u : Int) (q : Bool) : Prop :=
  (∃ t v : Nat, FAsk m A l ∧ t < l.length ∧ v < A.ends.length ∧ Flt m A l t v ∧ (∀ s, s < t → ∀ x, x < A.ends.length → ¬ Flt m A l s x) ∧ (∀ x, x < v → ¬ Flt m A l t x) ∧ r = (t : Int) ∧ u = (v : Int) ∧ q = true) ∨
  ((FAsk m A l → ∀ s, s < l.length → ∀ x, x < A.ends.length → ¬ Flt m A l s x) ∧ r = 0 ∧ u = 0 ∧ q = false)
theorem FF.det {m : Mach} {A : Net} {l : List (List Int)} {r r' u u' : Int} {q q' : Bool} (h : FF m A l r u q) (k : FF m A l r' u' q') : r = r' ∧ u = u' ∧ q = q' := by
  rcases h with ⟨t, v, h0, h1, h2, h3, h4, h5, h6, h7, h8⟩ | ⟨h1, h6, h7, h8⟩ <;> rcases k with ⟨s, x, k0, k1, k2, k3, k4, k5, k6, k7, k8⟩ | ⟨k1, k6, k7, k8⟩
  · have e : t = s := by
      rcases Nat.lt_trichotomy t s with h | h | h
      · exact absurd h3 (k4 t h v h2)
      · exact h
      · exact absurd k3 (h4 s h x k2)
    subst e
    have e : v = x := by
      rcases Nat.lt_trichotomy v x with h | h | h
      · exact absurd h3 (k5 v h)
      · exact h
      · exact absurd k3 (h5 x h)
    subst e
    exact ⟨by rw [h6, k6], by rw [h7, k7], by rw [h8, k8]⟩
  · exact absurd h3 (k1 h0 t h1 v h2)
  · exact absurd k3 (h1 k0 s k1 x k2)
  · exact ⟨by rw [h6, k6], by rw [h7, k7], by rw [h8, k8]⟩
theorem FF.det1 {m : Mach} {A : Net} {l : List (List Int)} {r r' u u' : Int} {q q' : Bool} (h : FF m A l r u q) (k : FF m A l r' u' q') : r = r' := (h.det k).1
theorem FF.det2 {m : Mach} {A : Net} {l : List (List Int)} {r r' u u' : Int} {q q' : Bool} (h : FF m A l r u q) (k : FF m A l r' u' q') : u = u' := (h.det k).2.1
theorem FF.det3 {m : Mach} {A : Net} {l : List (List Int)} {r r' u u' : Int} {q q' : Bool} (h : FF m A l r u q) (k : FF m A l r' u' q') : q = q' := (h.det k).2.2
theorem FF.no {m : Mach} {A : Net} {l : List (List Int)} (h : ¬ FAsk m A l) : FF m A l 0 0 false := .inr ⟨fun k => absurd k h, rfl, rfl, rfl⟩
theorem FF.none {m : Mach} {A : Net} {l : List (List Int)} {i : Nat} (h : ∀ s, s < i → ∀ x, x < A.ends.length → ¬ Flt m A l s x) (hi : l.length ≤ i) : FF m A l 0 0 false := .inr ⟨fun _ s hs => h s (Nat.lt_of_lt_of_le hs hi), rfl, rfl, rfl⟩
theorem FF.at {m : Mach} {A : Net} {l : List (List Int)} {i j : Nat} (h0 : FAsk m A l) (h1 : i < l.length) (h2 : j < A.ends.length) (h3 : Flt m A l i j) (h4 : ∀ s, s < i → ∀ x, x < A.ends.length → ¬ Flt m A l s x) (h5 : ∀ x, x < j → ¬ Flt m A l i x) : FF m A l (i : Int) (j : Int) true := .inl ⟨i, j, h0, h1, h2, h3, h4, h5, rfl, rfl, rfl⟩
theorem ff_succ {m : Mach} {A : Net} {l : List (List Int)} {i : Nat} {N : Nat} (h4 : ∀ s, s < i → ∀ x, x < N → ¬ Flt m A l s x) {j : Nat} (h5 : ∀ x, x < j → ¬ Flt m A l i x) (hj : N ≤ j) : ∀ s, s < i + 1 → ∀ x, x < N → ¬ Flt m A l s x := fun s hs x hx => by
  rcases Nat.lt_or_ge s i with h | h
  · exact h4 s h x hx
  · rw [show s = i by omega]; exact h5 x (by omega)
theorem ff_next {m : Mach} {A : Net} {l : List (List Int)} {i j : Nat} (h5 : ∀ x, x < j → ¬ Flt m A l i x) (h : ¬ Flt m A l i j) : ∀ x, x < j + 1 → ¬ Flt m A l i x := fun x hx => by
  rcases Nat.lt_or_ge x j with h1 | h1
  · exact h5 x h1
  · rw [show x = j by omega]; exact h
open Classical in
noncomputable def nsok (m : Mach) (A : Net) (r : List Int) : Bool := decide (¬ SOk m A r)
theorem nsok_t {m : Mach} {A : Net} {r : List Int} (h : ¬ SOk m A r) : true = nsok m A r := by simp [nsok, h]
theorem nsok_f {m : Mach} {A : Net} {r : List Int} (h : SOk m A r) : false = nsok m A r := by simp [nsok, h]
theorem nsok_of {m : Mach} {A : Net} {r : List Int} {b : Bool} (h : b = true ↔ SOk m A r) : (!b) = nsok m A r := by
  cases b with
  | true => exact nsok_f (h.1 rfl)
  | false => exact nsok_t fun hs => by have := h.2 hs; cases this
theorem any_f {m : Mach} {A : Net} {l : List (List Int)} (h : l.any (nsok m A) = false) : ∀ j (h : j < l.length), SOk m A l[j] := fun j hj => by
  have h1 := List.any_eq_false.1 h _ (List.getElem_mem hj)
  simpa [nsok] using h1
theorem any_t {m : Mach} {A : Net} {l : List (List Int)} (h : l.any (nsok m A) = true) (k : FAsk m A l) : False := by
  obtain ⟨x, hx, hp⟩ := List.any_eq_true.1 h
  obtain ⟨j, hj, rfl⟩ := List.mem_iff_getElem.1 hx
  have := k.2.2 j hj
  simp [nsok, this] at hp

set_option maxRecDepth 100000 in
theorem IndexFunc_row {lo hi : Nat} (a : Option Addr) (c : Nat) (xs : List (List Int)) (f : FuncId) (cap : List Value) (p : List Int → Bool) (w : World) (hx : Intss lo hi w a c xs) (hm : (xs.length : Int) < 9223372036854775807) (hp : ∀ i (h : i < xs.length) (a2 : Option Addr) (c2 : Nat) (w1 : World), Ext w w1 → Ints lo hi w1 a2 c2 xs[i] → Fn Try.prog f ([] ++ [Value.slice a2 xs[i].length c2] ++ cap).toArray w1 (fun v w2 => v = VB (p xs[i]) ∧ Ext w1 w2)) :
    Fn Try.prog 105 #[.slice a xs.length c, .func (.func f) #[] cap.toArray] w (fun v w' => v = VI (idxF p xs) ∧ Ext w w') := by
  have hE := Ext.refl w
  refine Fn_of Try.func105 rfl rfl (by kernel_rfl) rfl ?_
  refine W_seq ?_
  refine W_region ?_
  refine WL_q rfl (ev_assign rfl) ?_
  refine WL_nil ?_
  refine thenE_n ?_
  refine W_seq ?_
  refine W_seq ?_
  refine W_region ?_
  refine WL_q rfl (ev_move rfl) ?_
  refine WL_q rfl (ev_len Try.underlying22 rfl) ?_
  refine WL_q rfl (ev_move rfl) ?_
  refine WL_nil ?_
  refine thenE_n ?_
  refine W_block ?_
  refine W_loopC (G := Nat) [(0, _), (1, _), (7, _)] ((Subs.c rfl (Subs.c rfl (Subs.c rfl Subs.n)))) (fun i => [(8, VI (i : Int))]) (fun i w' => Ext w w' ∧ i ≤ xs.length ∧ ∀ j (_h : j < i) (h2 : j < xs.length), p xs[j] = false) (fun i => xs.length - i) 0 ((Subs.c (lkI rfl (by omega)) Subs.n)) (⟨Ext.refl _, ⟨by omega, fun j h => by omega⟩⟩) ?_
  rintro i wL0 ⟨hRL0, hi, hJ⟩
  have hzL0 := hRL0.size
  replace hE := hE.trans hRL0
  replace hx := hx.ext hRL0
  refine W_seq ?_
  refine W_region ?_
  refine WL_q rfl (ev_lss rfl rfl) ?_
  refine WL_nil ?_
  refine thenE_n ?_
  refine W_seq ?_
  refine W_cond rfl (fun hg9 => ?_) (fun hg9 => ?_)
  · have hp9 := of_decide_eq_true hg9
    refine W_skip ?_
    refine thenE_n ?_
    refine W_seq ?_
    refine W_block ?_
    refine W_seq ?_
    refine W_region ?_
    refine WL_q rfl (ev_move rfl) ?_
    refine WL_q rfl (ev_assign rfl) ?_
    refine WL_nil ?_
    refine thenE_n ?_
    refine W_seq ?_
    refine W_region ?_
    refine WL_q rfl (ev_move rfl) ?_
    refine WL_q rfl (ev_move rfl) ?_
    refine WL_q rfl (ev_move rfl) ?_
    obtain ⟨a2, c2, hc2, hr2⟩ := hx.row (i := i) (by omega)
    refine WL_q rfl (ev_indexAddr Try.underlying22 sz24 rfl rfl (hx.isSome (by omega)) (by omega) (by omega)) ?_
    refine WL_q rfl (ev_load one24 rfl (hc2)) ?_
    refine WL_m rfl (ev_callv rfl rfl (hp i (by omega) _ _ _ hE hr2)) ?_
    rintro _ w16 ⟨rfl, hE16⟩
    have hz16 := hE16.size
    replace hE := hE.trans hE16
    replace hRL0 := hRL0.trans hE16
    replace hx := hx.ext hE16
    refine WL_nil ?_
    refine thenE_n ?_
    refine W_cond rfl (fun hg16 => ?_) (fun hg16 => ?_)
    · refine W_seq ?_
      refine W_region ?_
      refine WL_q rfl (ev_move rfl) ?_
      refine WL_q rfl (ev_assign rfl) ?_
      refine WL_nil ?_
      refine thenE_n ?_
      refine W_ret ?_
      refine blockE_r ?_
      refine thenE_r ?_
      refine thenE_r ?_
      refine blockE_r ?_
      refine thenE_r ?_
      refine ret1 rfl rfl ?_
      first | exact ⟨vi (idxF_at (by omega) hg16 hJ).symm, hE⟩ | exact ⟨vi (idxF_none fun j h2 => hJ j (by omega) h2).symm, hE⟩
    · refine W_skip ?_
      refine blockE_n ?_
      refine thenE_n ?_
      refine W_region ?_
      refine WL_q rfl (ev_add rfl rfl (by omega)) ?_
      refine WL_q rfl (ev_move rfl) ?_
      refine WL_nil ?_
      refine thenE_n ?_
      exact ⟨i + 1, (Subs.c rfl (Subs.c rfl (Subs.c rfl Subs.n))), (Subs.c (lkI rfl (by omega)) Subs.n), ⟨hRL0, ⟨by omega, dsucc (P := fun j h2 => p xs[j] = false) hJ (by omega) hg16⟩⟩, by first | omega | (dsimp only; omega)⟩
  · have hp9 := of_decide_eq_false hg9
    refine W_exit ?_
    refine thenE_x ?_
    refine thenE_x ?_
    refine blockE_hit ?_
    refine thenE_n ?_
    refine W_seq ?_
    refine W_region ?_
    refine WL_q rfl (ev_assign rfl) ?_
    refine WL_nil ?_
    refine thenE_n ?_
    refine W_ret ?_
    refine ret1 rfl rfl ?_
    first | exact ⟨vi (idxF_at (by omega) hg16 hJ).symm, hE⟩ | exact ⟨vi (idxF_none fun j h2 => hJ j (by omega) h2).symm, hE⟩

set_option maxRecDepth 100000 in
theorem ContainsFunc_row {lo hi : Nat} (a : Option Addr) (c : Nat) (xs : List (List Int)) (f : FuncId) (cap : List Value) (p : List Int → Bool) (w : World) (hx : Intss lo hi w a c xs) (hm : (xs.length : Int) < 9223372036854775807) (hp : ∀ i (h : i < xs.length) (a2 : Option Addr) (c2 : Nat) (w1 : World), Ext w w1 → Ints lo hi w1 a2 c2 xs[i] → Fn Try.prog f ([] ++ [Value.slice a2 xs[i].length c2] ++ cap).toArray w1 (fun v w2 => v = VB (p xs[i]) ∧ Ext w1 w2)) :
    Fn Try.prog 81 #[.slice a xs.length c, .func (.func f) #[] cap.toArray] w (fun v w' => v = VB (xs.any p) ∧ Ext w w') := by
  have hE := Ext.refl w
  refine Fn_of Try.func81 rfl rfl (by kernel_rfl) rfl ?_
  refine W_seq ?_
  refine W_region ?_
  refine WL_q rfl (ev_assign rfl) ?_
  refine WL_nil ?_
  refine thenE_n ?_
  refine W_seq ?_
  refine W_region ?_
  refine WL_q rfl (ev_move rfl) ?_
  refine WL_q rfl (ev_move rfl) ?_
  refine WL_m rfl (ev_call rfl (IndexFunc_row _ _ _ _ _ p _ hx (by omega) hp)) ?_
  rintro _ w7 ⟨rfl, hE7⟩
  have hz7 := hE7.size
  replace hE := hE.trans hE7
  replace hx := hx.ext hE7
  refine WL_q rfl (ev_geq rfl rfl) ?_
  refine WL_q rfl (ev_assign rfl) ?_
  refine WL_nil ?_
  refine thenE_n ?_
  refine W_ret ?_
  refine ret1 rfl rfl ?_
  exact ⟨vb idxF_any, hE⟩

set_option maxRecDepth 100000 in
theorem FirstFault_1 {lom him : Nat} (nm : MA) (m : Mach) {loA hiA : Nat} (nA : NA) (A : Net) {loS hiS : Nat} (aS : Option Addr) (cS : Nat) (S : List Int) (b1 b2 : Nat) (T1 T2 : TypeId) (w : World) (hm : IsMach lom him w nm m) (hhim : him ≤ w.heap.size) (hnm : totM m ≤ 1048576) (hA : IsNet loA hiA w nA A) (hhiA : hiA ≤ w.heap.size) (hnA : totN A ≤ 1048576) (hS : Ints loS hiS w aS cS S) (hhiS : hiS ≤ w.heap.size) (hnS : S.length ≤ 1048576) (h1 : Blk w b1 T1 [VI m.deg, VI m.states, VI m.msgs, .slice nm.a1 m.start.length nm.c1, .slice nm.a2 m.send.length nm.c2, .slice nm.a3 m.clauses.length nm.c3, .slice nm.a4 m.output.length nm.c4]) (h2 : Blk w b2 T2 [.slice nA.a1 A.ends.length nA.c1, .slice nA.a2 A.ids.length nA.c2, .slice nA.a3 A.inputs.length nA.c3]) (hkm : MOk m) :
    Fn Try.prog 82 #[.slice aS S.length cS, ptr b1 0, ptr b2 0] w (fun v w' => v = VB (nsok m A S) ∧ Ext w w') := by
  have hmm : totL m.start + totL m.send + totC m.clauses + m.output.length ≤ 1048576 := hnm
  have hqA := totL_len A.ends
  have hmA : totL A.ends + A.ids.length + A.inputs.length ≤ 1048576 := hnA
  have hE := Ext.refl w
  refine Fn_of Try.func82 rfl rfl (by kernel_rfl) rfl ?_
  refine W_seq ?_
  refine W_region ?_
  refine WL_q rfl (ev_assign rfl) ?_
  refine WL_nil ?_
  refine thenE_n ?_
  refine W_seq ?_
  refine W_region ?_
  refine WL_q rfl (ev_loads st36 sz36 rfl (cellsB h1) rfl) ?_
  refine WL_q rfl (ev_loads st40 sz40 rfl (cellsB h2) rfl) ?_
  refine WL_q rfl (ev_move rfl) ?_
  refine WL_m rfl (ev_call rfl (statesOk_spec nm m nA A _ _ S _ hm (by omega) (by omega) hA (by omega) (by omega) hS (by omega) (by omega) hkm)) ?_
  rintro _ w8 ⟨b8, rfl, hb8, hE8⟩
  have hz8 := hE8.size
  replace hE := hE.trans hE8
  replace hm := hm.ext hE8
  replace hA := hA.ext hE8
  replace hS := hS.ext hE8
  replace h1 := h1.ext hE8
  replace h2 := h2.ext hE8
  refine WL_q rfl (ev_not rfl) ?_
  refine WL_q rfl (ev_assign rfl) ?_
  refine WL_nil ?_
  refine thenE_n ?_
  refine W_ret ?_
  refine ret1 rfl rfl ?_
  exact ⟨vb (nsok_of hb8), hE⟩

set_option maxRecDepth 100000 in
theorem sFirstFault_spec {lom him : Nat} (nm : MA) (m : Mach) {loA hiA : Nat} (nA : NA) (A : Net) {lol hil : Nat} (al : Option Addr) (cl : Nat) (l : List (List Int)) (w : World) (hm : IsMach lom him w nm m) (hhim : him ≤ w.heap.size) (hnm : totM m ≤ 1048576) (hA : IsNet loA hiA w nA A) (hhiA : hiA ≤ w.heap.size) (hnA : totN A ≤ 1048576) (hl : Intss lol hil w al cl l) (hhil : hil ≤ w.heap.size) (hnl : totL l ≤ 1048576) :
    Fn Try.prog 42 #[machV nm m, netV nA A, .slice al l.length cl] w (fun r w' => ∃ x y q, r = .tuple #[VI x, VI y, VB q] ∧ FF m A l x y q ∧ Ext w w') := by
  have hmm : totL m.start + totL m.send + totC m.clauses + m.output.length ≤ 1048576 := hnm
  have hqA := totL_len A.ends
  have hmA : totL A.ends + A.ids.length + A.inputs.length ≤ 1048576 := hnA
  have hs0 := stS_len m A
  have hE := Ext.refl w
  refine Fn_of Try.func42 rfl rfl (by kernel_rfl) rfl ?_
  refine W_seq ?_
  refine W_region ?_
  refine WL_m rfl (ev_box rfl) ?_
  rintro _ w3 ⟨rfl, hN3⟩
  have hz3 := hN3.size
  replace hE := hE.trans hN3.ext
  replace hm := hm.ext hN3.ext
  replace hA := hA.ext hN3.ext
  replace hl := hl.ext hN3.ext
  have hB3 : Blk w3 _ _ [_, _, _, _, _, _, _] := hN3.blk
  refine WL_m rfl (ev_box rfl) ?_
  rintro _ w4 ⟨rfl, hN4⟩
  have hz4 := hN4.size
  replace hE := hE.trans hN4.ext
  replace hm := hm.ext hN4.ext
  replace hA := hA.ext hN4.ext
  replace hl := hl.ext hN4.ext
  replace hB3 := hB3.ext hN4.ext
  have hB4 : Blk w4 _ _ [_, _, _] := hN4.blk
  refine WL_q rfl (ev_assign rfl) ?_
  refine WL_q rfl (ev_assign rfl) ?_
  refine WL_q rfl (ev_assign rfl) ?_
  refine WL_nil ?_
  refine thenE_n ?_
  refine W_seq ?_
  refine W_seq ?_
  refine W_region ?_
  refine WL_q rfl (ev_loads st36 sz36 rfl (cellsB hB3) rfl) ?_
  refine WL_q rfl (ev_loads st40 sz40 rfl (cellsB hB4) rfl) ?_
  refine WL_m rfl (ev_call rfl (maAsked_spec _ m _ A _ hm (by omega) (by omega) hA (by omega) (by omega))) ?_
  rintro _ w17 ⟨b17, rfl, hb17, hE17⟩
  have hz17 := hE17.size
  replace hE := hE.trans hE17
  replace hm := hm.ext hE17
  replace hA := hA.ext hE17
  replace hl := hl.ext hE17
  replace hB3 := hB3.ext hE17
  replace hB4 := hB4.ext hE17
  refine WL_q rfl (ev_not rfl) ?_
  refine WL_q rfl (ev_move rfl) ?_
  refine WL_splitv (t := 19) rfl (fun hg18 => ?_) (fun hg18 => ?_)
  · have hg17 := not_true hg18
    have hp17 := ttN hb17 hg17
    refine WL_no rfl rfl hg18 rfl ?_
    refine WL_no rfl rfl hg18 rfl ?_
    refine WL_no rfl rfl hg18 rfl ?_
    refine WL_no rfl rfl hg18 rfl ?_
    refine WL_q rfl (ev_pick_t rfl hg18 rfl) ?_
    refine WL_nil ?_
    refine thenE_n ?_
    refine W_cond_t rfl ?_
    refine W_seq ?_
    refine W_region ?_
    refine WL_q rfl (ev_assign rfl) ?_
    refine WL_q rfl (ev_assign rfl) ?_
    refine WL_q rfl (ev_assign rfl) ?_
    refine WL_nil ?_
    refine thenE_n ?_
    refine W_ret ?_
    refine thenE_r ?_
    refine ret3 rfl rfl rfl rfl ?_
    first | (exact ⟨_, _, _, rfl, .no (fun h => hp17 h.1), hE⟩) | (exact ⟨_, _, _, rfl, .no (fun h => tf hg22 h.2.1), hE⟩) | (exact ⟨_, _, _, rfl, .no (fun h => and_f hg37 (h.2.2 i hlt).1 (h.2.2 i hlt).2), hE⟩) | (exact ⟨_, _, _, rfl, .at hask hlt (by omega) ((Flt.iff hlt (by omega) (by omega)).2 hp63) hJ hJ2, hE⟩) | (exact ⟨_, _, _, rfl, .none hJ (by omega), hE⟩)
  · have hg17 := not_false hg18
    have hp17 := hb17.1 hg17
    refine WL_qg rfl rfl hg18 rfl (ev_move rfl) ?_
    refine WL_qg rfl rfl hg18 rfl (ev_len Try.underlying22 rfl) ?_
    refine WL_mg rfl rfl hg18 rfl (ev_call rfl (l1In_spec _ _ _ _)) ?_
    rintro _ _ ⟨rfl, rfl⟩
    refine WL_qg rfl rfl hg18 rfl (ev_not rfl) ?_
    refine WL_q rfl (ev_pick_f rfl hg18 rfl) ?_
    refine WL_nil ?_
    refine thenE_n ?_
    refine W_cond rfl (fun hg23 => ?_) (fun hg23 => ?_)
    · have hg22 := not_true hg23
      have hp22 := inR_false.1 hg22
      refine W_seq ?_
      refine W_region ?_
      refine WL_q rfl (ev_assign rfl) ?_
      refine WL_q rfl (ev_assign rfl) ?_
      refine WL_q rfl (ev_assign rfl) ?_
      refine WL_nil ?_
      refine thenE_n ?_
      refine W_ret ?_
      refine thenE_r ?_
      refine ret3 rfl rfl rfl rfl ?_
      first | (exact ⟨_, _, _, rfl, .no (fun h => hp17 h.1), hE⟩) | (exact ⟨_, _, _, rfl, .no (fun h => tf hg22 h.2.1), hE⟩) | (exact ⟨_, _, _, rfl, .no (fun h => and_f hg37 (h.2.2 i hlt).1 (h.2.2 i hlt).2), hE⟩) | (exact ⟨_, _, _, rfl, .at hask hlt (by omega) ((Flt.iff hlt (by omega) (by omega)).2 hp63) hJ hJ2, hE⟩) | (exact ⟨_, _, _, rfl, .none hJ (by omega), hE⟩)
    · have hg22 := not_false hg23
      have hp22 := inR_true.1 hg22
      refine W_skip ?_
      refine thenE_n ?_
      refine W_seq ?_
      refine W_seq ?_
      refine W_region ?_
      refine WL_q rfl (ev_move rfl) ?_
      refine WL_q rfl (ev_len Try.underlying22 rfl) ?_
      refine WL_q rfl (ev_move rfl) ?_
      refine WL_nil ?_
      refine thenE_n ?_
      refine W_block ?_
      refine W_loopC (G := Nat) [(2, _), (3, _), (4, _), (25, _), (26, _)] ((Subs.c rfl (Subs.c rfl (Subs.c rfl (Subs.c rfl (Subs.c rfl Subs.n)))))) (fun i => [(27, VI (i : Int))]) (fun i w' => Ext w17 w' ∧ i ≤ l.length ∧ ∀ j (_h : j < i) (h : j < l.length), SOk m A l[j]) (fun i => l.length - i) 0 ((Subs.c (lkI rfl (by omega)) Subs.n)) (⟨Ext.refl _, ⟨by omega, fun j h => by omega⟩⟩) ?_
      rintro i wL0 ⟨hRL0, hi', hJ0⟩
      have hzL0 := hRL0.size
      replace hE := hE.trans hRL0
      replace hm := hm.ext hRL0
      replace hA := hA.ext hRL0
      replace hl := hl.ext hRL0
      replace hB3 := hB3.ext hRL0
      replace hB4 := hB4.ext hRL0
      refine W_seq ?_
      refine W_region ?_
      refine WL_q rfl (ev_lss rfl rfl) ?_
      refine WL_nil ?_
      refine thenE_n ?_
      refine W_seq ?_
      refine W_cond rfl (fun hg28 => ?_) (fun hg28 => ?_)
      · have hp28 := of_decide_eq_true hg28
        refine W_skip ?_
        refine thenE_n ?_
        refine W_seq ?_
        refine W_block ?_
        refine W_seq ?_
        refine W_region ?_
        have hlt : i < l.length := by omega
        have hst := hp17.1.states
        have hll := totL_le hlt
        have hl29 : i < l.length := by omega
        have ht29 := totL_le hl29
        obtain ⟨a29, c29, hc29, hr29⟩ := hl.row hl29
        refine WL_q rfl (ev_indexAddr Try.underlying22 sz24 rfl rfl (hl.isSome (by omega)) (by omega) (by omega)) ?_
        refine WL_q rfl (ev_load one24 rfl (hc29)) ?_
        refine WL_q rfl (ev_assign rfl) ?_
        refine WL_nil ?_
        refine thenE_n ?_
        refine W_seq ?_
        refine W_region ?_
        refine WL_q rfl (ev_move rfl) ?_
        refine WL_q rfl (ev_fieldAddr fo40_0 rfl) ?_
        refine WL_q rfl (ev_load one38 rfl (hB4.cell rfl)) ?_
        refine WL_q rfl (ev_len Try.underlying38 rfl) ?_
        refine WL_q rfl (ev_fieldAddr fo36_1 rfl) ?_
        refine WL_q rfl (ev_load one3 rfl (hB3.cell rfl)) ?_
        refine WL_m rfl (ev_call rfl (maRow_spec _ _ l[i] _ _ _ hr29 (by omega) (by omega))) ?_
        rintro _ w37 ⟨rfl, hE37⟩
        have hz37 := hE37.size
        replace hE := hE.trans hE37
        replace hRL0 := hRL0.trans hE37
        replace hm := hm.ext hE37
        replace hA := hA.ext hE37
        replace hl := hl.ext hE37
        replace hB3 := hB3.ext hE37
        replace hB4 := hB4.ext hE37
        replace hr29 := hr29.ext hE37
        refine WL_q rfl (ev_not rfl) ?_
        refine WL_nil ?_
        refine thenE_n ?_
        refine W_cond rfl (fun hg38 => ?_) (fun hg38 => ?_)
        · have hg37 := not_true hg38
          refine W_seq ?_
          refine W_region ?_
          refine WL_q rfl (ev_assign rfl) ?_
          refine WL_q rfl (ev_assign rfl) ?_
          refine WL_q rfl (ev_assign rfl) ?_
          refine WL_nil ?_
          refine thenE_n ?_
          refine W_ret ?_
          refine blockE_r ?_
          refine thenE_r ?_
          refine thenE_r ?_
          refine blockE_r ?_
          refine thenE_r ?_
          refine ret3 rfl rfl rfl rfl ?_
          first | (exact ⟨_, _, _, rfl, .no (fun h => hp17 h.1), hE⟩) | (exact ⟨_, _, _, rfl, .no (fun h => tf hg22 h.2.1), hE⟩) | (exact ⟨_, _, _, rfl, .no (fun h => and_f hg37 (h.2.2 i hlt).1 (h.2.2 i hlt).2), hE⟩) | (exact ⟨_, _, _, rfl, .at hask hlt (by omega) ((Flt.iff hlt (by omega) (by omega)).2 hp63) hJ hJ2, hE⟩) | (exact ⟨_, _, _, rfl, .none hJ (by omega), hE⟩)
        · have hg37 := not_false hg38
          refine W_skip ?_
          refine blockE_n ?_
          refine thenE_n ?_
          refine W_region ?_
          refine WL_q rfl (ev_add rfl rfl (by omega)) ?_
          refine WL_q rfl (ev_move rfl) ?_
          refine WL_nil ?_
          refine thenE_n ?_
          exact ⟨i + 1, (Subs.c rfl (Subs.c rfl (Subs.c rfl (Subs.c rfl (Subs.c rfl Subs.n))))), (Subs.c (lkI rfl (by omega)) Subs.n), ⟨hRL0, ⟨by omega, dsucc (P := fun j h => SOk m A l[j]) hJ0 hlt ⟨and_l hg37, and_r hg37⟩⟩⟩, by first | omega | (dsimp only; omega)⟩
      · have hp28 := of_decide_eq_false hg28
        refine W_exit ?_
        refine thenE_x ?_
        refine thenE_x ?_
        refine blockE_hit ?_
        refine thenE_n ?_
        refine W_seq ?_
        refine W_region ?_
        refine WL_q rfl (ev_loads st36 sz36 rfl (cellsB hB3) rfl) ?_
        refine WL_q rfl (ev_loads st40 sz40 rfl (cellsB hB4) rfl) ?_
        have hask : FAsk m A l := ⟨hp17, hg22, fun j h => hJ0 j (by omega) h⟩
        have hnd := hp17.2.1.nodes
        refine WL_m rfl (ev_call rfl (maStart_spec _ m _ A _ hm (by omega) (by omega) hA (by omega) (by omega) (by assumption))) ?_
        rintro _ w42 ⟨a42, c42, rfl, hO42, hE42⟩
        have hz42 := hE42.size
        replace hE := hE.trans hE42
        replace hm := hm.ext hE42
        replace hA := hA.ext hE42
        replace hl := hl.ext hE42
        replace hB3 := hB3.ext hE42
        replace hB4 := hB4.ext hE42
        refine WL_q rfl (ev_assign rfl) ?_
        refine WL_nil ?_
        refine thenE_n ?_
        refine W_seq ?_
        refine W_seq ?_
        refine W_region ?_
        refine WL_q rfl (ev_move rfl) ?_
        refine WL_q rfl (ev_len Try.underlying22 rfl) ?_
        refine WL_q rfl (ev_move rfl) ?_
        refine WL_nil ?_
        refine thenE_n ?_
        refine W_block ?_
        refine W_loopC (G := Nat × Option Addr × Nat) [(3, _), (4, _), (43, _), (44, _)] ((Subs.c rfl (Subs.c rfl (Subs.c rfl (Subs.c rfl Subs.n))))) (fun ⟨i, a, c⟩ => [(11, .slice a (exT m A l i).length c), (45, VI (i : Int))]) (fun ⟨i, a, c⟩ w' => Ext w42 w' ∧ i ≤ l.length ∧ Own w.heap.size w' 3 1 a (exT m A l i).length c ((exT m A l i).map VI) ∧ ∀ s, s < i → ∀ x, x < A.ends.length → ¬ Flt m A l s x) (fun g => l.length - g.1) (0, _, _) ((Subs.c rfl (Subs.c (lkI rfl (by omega)) Subs.n))) (⟨Ext.refl _, ⟨by omega, hO42.mono (by omega), fun s h => by omega⟩⟩) ?_
        rintro ⟨i, a, c⟩ wL2 ⟨hRL2, hi', hO, hJ⟩
        have hzL2 := hRL2.size
        replace hE := hE.trans hRL2
        replace hm := hm.ext hRL2
        replace hA := hA.ext hRL2
        replace hl := hl.ext hRL2
        replace hB3 := hB3.ext hRL2
        replace hB4 := hB4.ext hRL2
        replace hO42 := hO42.ext hRL2
        refine W_seq ?_
        refine W_region ?_
        refine WL_q rfl (ev_lss rfl rfl) ?_
        refine WL_nil ?_
        refine thenE_n ?_
        refine W_seq ?_
        refine W_cond rfl (fun hg46 => ?_) (fun hg46 => ?_)
        · have hp46 := of_decide_eq_true hg46
          refine W_skip ?_
          refine thenE_n ?_
          refine W_seq ?_
          refine W_block ?_
          refine W_seq ?_
          refine W_region ?_
          refine WL_q rfl (ev_move rfl) ?_
          have hlt : i < l.length := by omega
          have hsi := hask.2.2 i hlt
          have hsl := hsi.len
          have hel := exT_len m A l i
          have hl48 : i < l.length := by omega
          have ht48 := totL_le hl48
          obtain ⟨a48, c48, hc48, hr48⟩ := hl.row hl48
          refine WL_q rfl (ev_indexAddr Try.underlying22 sz24 rfl rfl (hl.isSome (by omega)) (by omega) (by omega)) ?_
          refine WL_q rfl (ev_load one24 rfl (hc48)) ?_
          refine WL_q rfl (ev_assign rfl) ?_
          refine WL_q rfl (ev_assign rfl) ?_
          refine WL_nil ?_
          refine thenE_n ?_
          refine W_seq ?_
          refine W_seq ?_
          refine W_region ?_
          refine WL_q rfl (ev_move rfl) ?_
          refine WL_q rfl (ev_len Try.underlying24 rfl) ?_
          refine WL_q rfl (ev_move rfl) ?_
          refine WL_nil ?_
          refine thenE_n ?_
          refine W_block ?_
          refine W_loopC (G := Nat) [(3, _), (4, _), (11, _), (12, _), (13, _), (43, _), (44, _), (45, _), (51, _)] ((Subs.c rfl (Subs.c rfl (Subs.c rfl (Subs.c rfl (Subs.c rfl (Subs.c rfl (Subs.c rfl (Subs.c rfl (Subs.c rfl Subs.n)))))))))) (fun j => [(52, VI (j : Int))]) (fun j w' => Ext wL2 w' ∧ j ≤ l[i].length ∧ ∀ x, x < j → ¬ Flt m A l i x) (fun j => l[i].length - j) 0 ((Subs.c (lkI rfl (by omega)) Subs.n)) (⟨Ext.refl _, ⟨Nat.zero_le _, fun x h => by omega⟩⟩) ?_
          rintro j wL4 ⟨hRL4, hj', hJ2⟩
          have hzL4 := hRL4.size
          replace hE := hE.trans hRL4
          replace hRL2 := hRL2.trans hRL4
          replace hm := hm.ext hRL4
          replace hA := hA.ext hRL4
          replace hl := hl.ext hRL4
          replace hB3 := hB3.ext hRL4
          replace hB4 := hB4.ext hRL4
          replace hO42 := hO42.ext hRL4
          replace hO := hO.ext hRL4
          replace hr48 := hr48.ext hRL4
          refine W_seq ?_
          refine W_region ?_
          refine WL_q rfl (ev_lss rfl rfl) ?_
          refine WL_nil ?_
          refine thenE_n ?_
          refine W_seq ?_
          refine W_cond rfl (fun hg53 => ?_) (fun hg53 => ?_)
          · have hp53 := of_decide_eq_true hg53
            refine W_skip ?_
            refine thenE_n ?_
            refine W_seq ?_
            refine W_block ?_
            refine W_seq ?_
            refine W_region ?_
            have hlt2 : j < l[i].length := by omega
            refine WL_q rfl (ev_move rfl) ?_
            refine WL_q rfl (ev_assign rfl) ?_
            refine WL_nil ?_
            refine thenE_n ?_
            refine W_seq ?_
            refine W_drawE [(0, true), (1, true), (2, true), (3, true), (4, true), (5, true), (6, true), (7, true), (8, true)] mixed (by kernel_rfl) rfl (by kernel_rfl) ?_
            intro wd16 hEd16 hzd16
            replace hE := hE.trans hEd16
            replace hRL2 := hRL2.trans hEd16
            replace hRL4 := hRL4.trans hEd16
            replace hm := hm.ext hEd16
            replace hA := hA.ext hEd16
            replace hl := hl.ext hEd16
            replace hB3 := hB3.ext hEd16
            replace hB4 := hB4.ext hEd16
            replace hO42 := hO42.ext hEd16
            replace hO := hO.ext hEd16
            replace hr48 := hr48.ext hEd16
            have hDd16 := Ext.refl wd16
            refine PW_q rfl rfl (fun wq hq => ev_move rfl) ?_
            refine PW_q rfl rfl (fun wq hq => ev_move rfl) ?_
            refine PW_q rfl rfl (fun wq hq => ev_indexAddr Try.underlying24 sz3 rfl rfl (hr48.isSome (by omega)) (by omega) (by omega)) ?_
            have hc58 := hr48.cell (i := j) (by omega)
            refine PW_q rfl rfl (fun wq hq => ev_load one3 rfl (hq.cell (hc58))) ?_
            refine PW_q rfl rfl (fun wq hq => ev_move rfl) ?_
            refine PW_q rfl rfl (fun wq hq => ev_move rfl) ?_
            refine PW_q rfl rfl (fun wq hq => ev_indexAddr Try.underlying24 sz3 rfl rfl ((own_i hO).isSome (by omega)) (by omega) (by omega)) ?_
            have hc62 := (own_i hO).cell (i := j) (by omega)
            refine PW_q rfl rfl (fun wq hq => ev_load one3 rfl (hq.cell (hc62))) ?_
            refine PW_q rfl rfl (fun wq hq => ev_neq rfl rfl) ?_
            refine PW_nil ?_
            refine thenE_n ?_
            refine W_cond rfl (fun hg63 => ?_) (fun hg63 => ?_)
            · have hp63 := of_decide_eq_true hg63
              refine W_seq ?_
              refine W_region ?_
              refine WL_q rfl (ev_move rfl) ?_
              refine WL_q rfl (ev_move rfl) ?_
              refine WL_q rfl (ev_assign rfl) ?_
              refine WL_q rfl (ev_assign rfl) ?_
              refine WL_q rfl (ev_assign rfl) ?_
              refine WL_nil ?_
              refine thenE_n ?_
              refine W_ret ?_
              refine blockE_r ?_
              refine thenE_r ?_
              refine thenE_r ?_
              refine blockE_r ?_
              refine thenE_r ?_
              refine blockE_r ?_
              refine thenE_r ?_
              refine thenE_r ?_
              refine blockE_r ?_
              refine thenE_r ?_
              refine ret3 rfl rfl rfl rfl ?_
              first | (exact ⟨_, _, _, rfl, .no (fun h => hp17 h.1), hE⟩) | (exact ⟨_, _, _, rfl, .no (fun h => tf hg22 h.2.1), hE⟩) | (exact ⟨_, _, _, rfl, .no (fun h => and_f hg37 (h.2.2 i hlt).1 (h.2.2 i hlt).2), hE⟩) | (exact ⟨_, _, _, rfl, .at hask hlt (by omega) ((Flt.iff hlt (by omega) (by omega)).2 hp63) hJ hJ2, hE⟩) | (exact ⟨_, _, _, rfl, .none hJ (by omega), hE⟩)
            · have hp63 := of_decide_eq_false hg63
              refine W_skip ?_
              refine blockE_n ?_
              refine thenE_n ?_
              refine W_region ?_
              refine WL_q rfl (ev_add rfl rfl (by omega)) ?_
              refine WL_q rfl (ev_move rfl) ?_
              refine WL_nil ?_
              refine thenE_n ?_
              exact ⟨j + 1, (Subs.c rfl (Subs.c rfl (Subs.c rfl (Subs.c rfl (Subs.c rfl (Subs.c rfl (Subs.c rfl (Subs.c rfl (Subs.c rfl Subs.n))))))))), (Subs.c (lkI rfl (by omega)) Subs.n), ⟨hRL4, ⟨by omega, ff_next hJ2 (fun hq => absurd ((Flt.iff hlt (by omega) (by omega)).1 hq) (not_not_intro (by omega)))⟩⟩, by first | omega | (dsimp only; omega)⟩
          · have hp53 := of_decide_eq_false hg53
            refine W_exit ?_
            refine thenE_x ?_
            refine thenE_x ?_
            refine blockE_hit ?_
            refine thenE_n ?_
            refine W_region ?_
            refine WL_q rfl (ev_loads st36 sz36 rfl (cellsB hB3) rfl) ?_
            refine WL_q rfl (ev_loads st40 sz40 rfl (cellsB hB4) rfl) ?_
            refine WL_q rfl (ev_move rfl) ?_
            refine WL_m rfl (ev_call rfl (maStep_spec _ m _ A _ _ l[i] _ hm (by omega) (by omega) hA (by omega) (by omega) hr48 (by omega) (by omega) (by assumption) (by assumption))) ?_
            rintro _ w70 ⟨a70, c70, rfl, hO70, hE70⟩
            have hz70 := hE70.size
            replace hE := hE.trans hE70
            replace hRL2 := hRL2.trans hE70
            replace hm := hm.ext hE70
            replace hA := hA.ext hE70
            replace hl := hl.ext hE70
            replace hB3 := hB3.ext hE70
            replace hB4 := hB4.ext hE70
            replace hO42 := hO42.ext hE70
            replace hO := hO.ext hE70
            replace hr48 := hr48.ext hE70
            refine WL_q rfl (ev_assign rfl) ?_
            refine WL_nil ?_
            refine blockE_n ?_
            refine thenE_n ?_
            refine W_region ?_
            refine WL_q rfl (ev_add rfl rfl (by omega)) ?_
            refine WL_q rfl (ev_move rfl) ?_
            refine WL_nil ?_
            refine thenE_n ?_
            have he9 := exT_succ (m := m) (A := A) hlt
            exact ⟨(i + 1, a70, c70), (Subs.c rfl (Subs.c rfl (Subs.c rfl (Subs.c rfl Subs.n)))), (Subs.c (lkS rfl (by rw [he9])) (Subs.c (lkI rfl (by omega)) Subs.n)), ⟨hRL2, ⟨by omega, by rw [he9]; exact hO70.mono (by omega), ff_succ hJ hJ2 (by omega)⟩⟩, by first | omega | (dsimp only; omega)⟩
        · have hp46 := of_decide_eq_false hg46
          refine W_exit ?_
          refine thenE_x ?_
          refine thenE_x ?_
          refine blockE_hit ?_
          refine thenE_n ?_
          refine W_seq ?_
          refine W_region ?_
          refine WL_q rfl (ev_assign rfl) ?_
          refine WL_q rfl (ev_assign rfl) ?_
          refine WL_q rfl (ev_assign rfl) ?_
          refine WL_nil ?_
          refine thenE_n ?_
          refine W_ret ?_
          refine ret3 rfl rfl rfl rfl ?_
          first | (exact ⟨_, _, _, rfl, .no (fun h => hp17 h.1), hE⟩) | (exact ⟨_, _, _, rfl, .no (fun h => tf hg22 h.2.1), hE⟩) | (exact ⟨_, _, _, rfl, .no (fun h => and_f hg37 (h.2.2 i hlt).1 (h.2.2 i hlt).2), hE⟩) | (exact ⟨_, _, _, rfl, .at hask hlt (by omega) ((Flt.iff hlt (by omega) (by omega)).2 hp63) hJ hJ2, hE⟩) | (exact ⟨_, _, _, rfl, .none hJ (by omega), hE⟩)

set_option maxRecDepth 100000 in
theorem FirstFault_spec {lom him : Nat} (nm : MA) (m : Mach) {loA hiA : Nat} (nA : NA) (A : Net) {lol hil : Nat} (al : Option Addr) (cl : Nat) (l : List (List Int)) (w : World) (hm : IsMach lom him w nm m) (hhim : him ≤ w.heap.size) (hnm : totM m ≤ 1048576) (hA : IsNet loA hiA w nA A) (hhiA : hiA ≤ w.heap.size) (hnA : totN A ≤ 1048576) (hl : Intss lol hil w al cl l) (hhil : hil ≤ w.heap.size) (hnl : totL l ≤ 1048576) :
    Fn Try.prog 44 #[machV nm m, netV nA A, .slice al l.length cl] w (fun r w' => ∃ x y q, r = .tuple #[VI x, VI y, VB q] ∧ FF m A l x y q ∧ Ext w w') := by
  have hmm : totL m.start + totL m.send + totC m.clauses + m.output.length ≤ 1048576 := hnm
  have hqA := totL_len A.ends
  have hmA : totL A.ends + A.ids.length + A.inputs.length ≤ 1048576 := hnA
  have hs0 := stS_len m A
  have hE := Ext.refl w
  refine Fn_of Try.func44 rfl rfl (by kernel_rfl) rfl ?_
  refine W_seq ?_
  refine W_region ?_
  refine WL_m rfl (ev_box rfl) ?_
  rintro _ w3 ⟨rfl, hN3⟩
  have hz3 := hN3.size
  replace hE := hE.trans hN3.ext
  replace hm := hm.ext hN3.ext
  replace hA := hA.ext hN3.ext
  replace hl := hl.ext hN3.ext
  have hB3 : Blk w3 _ _ [_, _, _, _, _, _, _] := hN3.blk
  refine WL_m rfl (ev_box rfl) ?_
  rintro _ w4 ⟨rfl, hN4⟩
  have hz4 := hN4.size
  replace hE := hE.trans hN4.ext
  replace hm := hm.ext hN4.ext
  replace hA := hA.ext hN4.ext
  replace hl := hl.ext hN4.ext
  replace hB3 := hB3.ext hN4.ext
  have hB4 : Blk w4 _ _ [_, _, _] := hN4.blk
  refine WL_q rfl (ev_assign rfl) ?_
  refine WL_q rfl (ev_assign rfl) ?_
  refine WL_q rfl (ev_assign rfl) ?_
  refine WL_nil ?_
  refine thenE_n ?_
  refine W_seq ?_
  refine W_seq ?_
  refine W_region ?_
  refine WL_q rfl (ev_loads st36 sz36 rfl (cellsB hB3) rfl) ?_
  refine WL_q rfl (ev_loads st40 sz40 rfl (cellsB hB4) rfl) ?_
  refine WL_m rfl (ev_call rfl (fits_spec _ m _ A _ hm (by omega) (by omega) hA (by omega) (by omega))) ?_
  rintro _ w16 ⟨b16, rfl, hb16, hE16⟩
  have hz16 := hE16.size
  replace hE := hE.trans hE16
  replace hm := hm.ext hE16
  replace hA := hA.ext hE16
  replace hl := hl.ext hE16
  replace hB3 := hB3.ext hE16
  replace hB4 := hB4.ext hE16
  refine WL_q rfl (ev_not rfl) ?_
  refine WL_q rfl (ev_move rfl) ?_
  refine WL_splitv (t := 18) rfl (fun hg17 => ?_) (fun hg17 => ?_)
  · have hg16 := not_true hg17
    have hp16 := ttN hb16 hg16
    refine WL_no rfl rfl hg17 rfl ?_
    refine WL_no rfl rfl hg17 rfl ?_
    refine WL_no rfl rfl hg17 rfl ?_
    refine WL_no rfl rfl hg17 rfl ?_
    refine WL_q rfl (ev_pick_t rfl hg17 rfl) ?_
    refine WL_q rfl (ev_move rfl) ?_
    refine WL_no rfl rfl rfl rfl ?_
    refine WL_no rfl rfl rfl rfl ?_
    refine WL_no rfl rfl rfl rfl ?_
    refine WL_q rfl (ev_pick_t rfl rfl rfl) ?_
    refine WL_nil ?_
    refine thenE_n ?_
    refine W_cond_t rfl ?_
    refine W_seq ?_
    refine W_region ?_
    refine WL_q rfl (ev_assign rfl) ?_
    refine WL_q rfl (ev_assign rfl) ?_
    refine WL_q rfl (ev_assign rfl) ?_
    refine WL_nil ?_
    refine thenE_n ?_
    refine W_ret ?_
    refine thenE_r ?_
    refine ret3 rfl rfl rfl rfl ?_
    first | (exact ⟨_, _, _, rfl, .no (fun h => hp16 h.1), hE⟩) | (exact ⟨_, _, _, rfl, .no (fun h => tf hg21 h.2.1), hE⟩) | (exact ⟨_, _, _, rfl, .no (any_t hg27), hE⟩) | (exact ⟨_, _, _, rfl, .at hask hlt (by omega) ((Flt.iff hlt (by omega) (by omega)).2 hp51) hJ hJ2, hE⟩) | (exact ⟨_, _, _, rfl, .none hJ (by omega), hE⟩)
  · have hg16 := not_false hg17
    have hp16 := hb16.1 hg16
    refine WL_qg rfl rfl hg17 rfl (ev_move rfl) ?_
    refine WL_qg rfl rfl hg17 rfl (ev_len Try.underlying22 rfl) ?_
    refine WL_mg rfl rfl hg17 rfl (ev_call rfl (within_spec _ _ _ _)) ?_
    rintro _ _ ⟨rfl, rfl⟩
    refine WL_qg rfl rfl hg17 rfl (ev_not rfl) ?_
    refine WL_q rfl (ev_pick_f rfl hg17 rfl) ?_
    refine WL_q rfl (ev_move rfl) ?_
    refine WL_splitv (t := 24) rfl (fun hg22 => ?_) (fun hg22 => ?_)
    · have hg21 := not_true hg22
      have hp21 := inR_false.1 hg21
      refine WL_no rfl rfl hg22 rfl ?_
      refine WL_no rfl rfl hg22 rfl ?_
      refine WL_no rfl rfl hg22 rfl ?_
      refine WL_q rfl (ev_pick_t rfl hg22 rfl) ?_
      refine WL_nil ?_
      refine thenE_n ?_
      refine W_cond_t rfl ?_
      refine W_seq ?_
      refine W_region ?_
      refine WL_q rfl (ev_assign rfl) ?_
      refine WL_q rfl (ev_assign rfl) ?_
      refine WL_q rfl (ev_assign rfl) ?_
      refine WL_nil ?_
      refine thenE_n ?_
      refine W_ret ?_
      refine thenE_r ?_
      refine ret3 rfl rfl rfl rfl ?_
      first | (exact ⟨_, _, _, rfl, .no (fun h => hp16 h.1), hE⟩) | (exact ⟨_, _, _, rfl, .no (fun h => tf hg21 h.2.1), hE⟩) | (exact ⟨_, _, _, rfl, .no (any_t hg27), hE⟩) | (exact ⟨_, _, _, rfl, .at hask hlt (by omega) ((Flt.iff hlt (by omega) (by omega)).2 hp51) hJ hJ2, hE⟩) | (exact ⟨_, _, _, rfl, .none hJ (by omega), hE⟩)
    · have hg21 := not_false hg22
      have hp21 := inR_true.1 hg21
      refine WL_qg rfl rfl hg22 rfl (ev_move rfl) ?_
      refine WL_qg rfl rfl hg22 rfl (ev_makeFunc rfl rfl) ?_
      refine WL_mg rfl rfl hg22 rfl (ev_call rfl (ContainsFunc_row _ _ l _ _ (nsok m A) _ hl (by omega) (fun u h a2 c2 w1 hw hr => FirstFault_1 nm m nA A _ _ _ _ _ _ _ w1 (hm.ext hw) (by have := hw.size; omega) (by omega) (hA.ext hw) (by have := hw.size; omega) (by omega) hr (by have := hw.size; omega) (by have := totL_le h; omega) (hB3.ext hw) (hB4.ext hw) hp16.1))) ?_
      rintro _ w27 ⟨rfl, hE27⟩
      have hz27 := hE27.size
      replace hE := hE.trans hE27
      replace hm := hm.ext hE27
      replace hA := hA.ext hE27
      replace hl := hl.ext hE27
      replace hB3 := hB3.ext hE27
      replace hB4 := hB4.ext hE27
      refine WL_q rfl (ev_pick_f rfl hg22 rfl) ?_
      refine WL_nil ?_
      refine thenE_n ?_
      refine W_cond rfl (fun hg27 => ?_) (fun hg27 => ?_)
      · refine W_seq ?_
        refine W_region ?_
        refine WL_q rfl (ev_assign rfl) ?_
        refine WL_q rfl (ev_assign rfl) ?_
        refine WL_q rfl (ev_assign rfl) ?_
        refine WL_nil ?_
        refine thenE_n ?_
        refine W_ret ?_
        refine thenE_r ?_
        refine ret3 rfl rfl rfl rfl ?_
        first | (exact ⟨_, _, _, rfl, .no (fun h => hp16 h.1), hE⟩) | (exact ⟨_, _, _, rfl, .no (fun h => tf hg21 h.2.1), hE⟩) | (exact ⟨_, _, _, rfl, .no (any_t hg27), hE⟩) | (exact ⟨_, _, _, rfl, .at hask hlt (by omega) ((Flt.iff hlt (by omega) (by omega)).2 hp51) hJ hJ2, hE⟩) | (exact ⟨_, _, _, rfl, .none hJ (by omega), hE⟩)
      · refine W_skip ?_
        refine thenE_n ?_
        refine W_seq ?_
        refine W_region ?_
        refine WL_q rfl (ev_loads st36 sz36 rfl (cellsB hB3) rfl) ?_
        refine WL_q rfl (ev_loads st40 sz40 rfl (cellsB hB4) rfl) ?_
        have hask : FAsk m A l := ⟨hp16, hg21, any_f hg27⟩
        have hnd := hp16.2.1.nodes
        refine WL_m rfl (ev_call rfl (startStates_spec _ m _ A _ hm (by omega) (by omega) hA (by omega) (by omega) (by assumption))) ?_
        rintro _ w31 ⟨a31, c31, rfl, hO31, hE31⟩
        have hz31 := hE31.size
        replace hE := hE.trans hE31
        replace hm := hm.ext hE31
        replace hA := hA.ext hE31
        replace hl := hl.ext hE31
        replace hB3 := hB3.ext hE31
        replace hB4 := hB4.ext hE31
        refine WL_q rfl (ev_assign rfl) ?_
        refine WL_nil ?_
        refine thenE_n ?_
        refine W_seq ?_
        refine W_seq ?_
        refine W_region ?_
        refine WL_q rfl (ev_move rfl) ?_
        refine WL_q rfl (ev_len Try.underlying22 rfl) ?_
        refine WL_q rfl (ev_move rfl) ?_
        refine WL_nil ?_
        refine thenE_n ?_
        refine W_block ?_
        refine W_loopC (G := Nat × Option Addr × Nat) [(3, _), (4, _), (32, _), (33, _)] ((Subs.c rfl (Subs.c rfl (Subs.c rfl (Subs.c rfl Subs.n))))) (fun ⟨i, a, c⟩ => [(9, .slice a (exT m A l i).length c), (34, VI (i : Int))]) (fun ⟨i, a, c⟩ w' => Ext w31 w' ∧ i ≤ l.length ∧ Own w.heap.size w' 3 1 a (exT m A l i).length c ((exT m A l i).map VI) ∧ ∀ s, s < i → ∀ x, x < A.ends.length → ¬ Flt m A l s x) (fun g => l.length - g.1) (0, _, _) ((Subs.c rfl (Subs.c (lkI rfl (by omega)) Subs.n))) (⟨Ext.refl _, ⟨by omega, hO31.mono (by omega), fun s h => by omega⟩⟩) ?_
        rintro ⟨i, a, c⟩ wL0 ⟨hRL0, hi', hO, hJ⟩
        have hzL0 := hRL0.size
        replace hE := hE.trans hRL0
        replace hm := hm.ext hRL0
        replace hA := hA.ext hRL0
        replace hl := hl.ext hRL0
        replace hB3 := hB3.ext hRL0
        replace hB4 := hB4.ext hRL0
        replace hO31 := hO31.ext hRL0
        refine W_seq ?_
        refine W_region ?_
        refine WL_q rfl (ev_lss rfl rfl) ?_
        refine WL_nil ?_
        refine thenE_n ?_
        refine W_seq ?_
        refine W_cond rfl (fun hg35 => ?_) (fun hg35 => ?_)
        · have hp35 := of_decide_eq_true hg35
          refine W_skip ?_
          refine thenE_n ?_
          refine W_seq ?_
          refine W_block ?_
          refine W_seq ?_
          refine W_region ?_
          refine WL_q rfl (ev_move rfl) ?_
          have hlt : i < l.length := by omega
          have hsi := hask.2.2 i hlt
          have hsl := hsi.len
          have hel := exT_len m A l i
          have hl37 : i < l.length := by omega
          have ht37 := totL_le hl37
          obtain ⟨a37, c37, hc37, hr37⟩ := hl.row hl37
          refine WL_q rfl (ev_indexAddr Try.underlying22 sz24 rfl rfl (hl.isSome (by omega)) (by omega) (by omega)) ?_
          refine WL_q rfl (ev_load one24 rfl (hc37)) ?_
          refine WL_q rfl (ev_assign rfl) ?_
          refine WL_q rfl (ev_assign rfl) ?_
          refine WL_nil ?_
          refine thenE_n ?_
          refine W_seq ?_
          refine W_seq ?_
          refine W_region ?_
          refine WL_q rfl (ev_move rfl) ?_
          refine WL_q rfl (ev_len Try.underlying24 rfl) ?_
          refine WL_q rfl (ev_move rfl) ?_
          refine WL_nil ?_
          refine thenE_n ?_
          refine W_block ?_
          refine W_loopC (G := Nat) [(3, _), (4, _), (9, _), (10, _), (11, _), (32, _), (33, _), (34, _), (39, _), (40, _)] ((Subs.c rfl (Subs.c rfl (Subs.c rfl (Subs.c rfl (Subs.c rfl (Subs.c rfl (Subs.c rfl (Subs.c rfl (Subs.c rfl (Subs.c rfl Subs.n))))))))))) (fun j => [(41, VI (j : Int))]) (fun j w' => Ext wL0 w' ∧ j ≤ l[i].length ∧ ∀ x, x < j → ¬ Flt m A l i x) (fun j => l[i].length - j) 0 ((Subs.c (lkI rfl (by omega)) Subs.n)) (⟨Ext.refl _, ⟨Nat.zero_le _, fun x h => by omega⟩⟩) ?_
          rintro j wL2 ⟨hRL2, hj', hJ2⟩
          have hzL2 := hRL2.size
          replace hE := hE.trans hRL2
          replace hRL0 := hRL0.trans hRL2
          replace hm := hm.ext hRL2
          replace hA := hA.ext hRL2
          replace hl := hl.ext hRL2
          replace hB3 := hB3.ext hRL2
          replace hB4 := hB4.ext hRL2
          replace hO31 := hO31.ext hRL2
          replace hO := hO.ext hRL2
          replace hr37 := hr37.ext hRL2
          refine W_seq ?_
          refine W_region ?_
          refine WL_q rfl (ev_lss rfl rfl) ?_
          refine WL_nil ?_
          refine thenE_n ?_
          refine W_seq ?_
          refine W_cond rfl (fun hg42 => ?_) (fun hg42 => ?_)
          · have hp42 := of_decide_eq_true hg42
            refine W_skip ?_
            refine thenE_n ?_
            refine W_seq ?_
            refine W_block ?_
            refine W_seq ?_
            refine W_region ?_
            refine WL_q rfl (ev_move rfl) ?_
            have hlt2 : j < l[i].length := by omega
            refine WL_q rfl (ev_indexAddr Try.underlying24 sz3 rfl rfl (hr37.isSome (by omega)) (by omega) (by omega)) ?_
            refine WL_q rfl (ev_load one3 rfl (hr37.cell (i := j) (by omega))) ?_
            refine WL_q rfl (ev_assign rfl) ?_
            refine WL_q rfl (ev_assign rfl) ?_
            refine WL_nil ?_
            refine thenE_n ?_
            refine W_seq ?_
            refine W_region ?_
            refine WL_q rfl (ev_move rfl) ?_
            refine WL_q rfl (ev_move rfl) ?_
            refine WL_q rfl (ev_move rfl) ?_
            refine WL_q rfl (ev_indexAddr Try.underlying24 sz3 rfl rfl ((own_i hO).isSome (by omega)) (by omega) (by omega)) ?_
            refine WL_q rfl (ev_load one3 rfl ((own_i hO).cell (i := j) (by omega))) ?_
            refine WL_q rfl (ev_neq rfl rfl) ?_
            refine WL_nil ?_
            refine thenE_n ?_
            refine W_cond rfl (fun hg51 => ?_) (fun hg51 => ?_)
            · have hp51 := of_decide_eq_true hg51
              refine W_seq ?_
              refine W_region ?_
              refine WL_q rfl (ev_move rfl) ?_
              refine WL_q rfl (ev_move rfl) ?_
              refine WL_q rfl (ev_assign rfl) ?_
              refine WL_q rfl (ev_assign rfl) ?_
              refine WL_q rfl (ev_assign rfl) ?_
              refine WL_nil ?_
              refine thenE_n ?_
              refine W_ret ?_
              refine blockE_r ?_
              refine thenE_r ?_
              refine thenE_r ?_
              refine blockE_r ?_
              refine thenE_r ?_
              refine blockE_r ?_
              refine thenE_r ?_
              refine thenE_r ?_
              refine blockE_r ?_
              refine thenE_r ?_
              refine ret3 rfl rfl rfl rfl ?_
              first | (exact ⟨_, _, _, rfl, .no (fun h => hp16 h.1), hE⟩) | (exact ⟨_, _, _, rfl, .no (fun h => tf hg21 h.2.1), hE⟩) | (exact ⟨_, _, _, rfl, .no (any_t hg27), hE⟩) | (exact ⟨_, _, _, rfl, .at hask hlt (by omega) ((Flt.iff hlt (by omega) (by omega)).2 hp51) hJ hJ2, hE⟩) | (exact ⟨_, _, _, rfl, .none hJ (by omega), hE⟩)
            · have hp51 := of_decide_eq_false hg51
              refine W_skip ?_
              refine blockE_n ?_
              refine thenE_n ?_
              refine W_region ?_
              refine WL_q rfl (ev_add rfl rfl (by omega)) ?_
              refine WL_q rfl (ev_move rfl) ?_
              refine WL_nil ?_
              refine thenE_n ?_
              exact ⟨j + 1, (Subs.c rfl (Subs.c rfl (Subs.c rfl (Subs.c rfl (Subs.c rfl (Subs.c rfl (Subs.c rfl (Subs.c rfl (Subs.c rfl (Subs.c rfl Subs.n)))))))))), (Subs.c (lkI rfl (by omega)) Subs.n), ⟨hRL2, ⟨by omega, ff_next hJ2 (fun hq => absurd ((Flt.iff hlt (by omega) (by omega)).1 hq) (not_not_intro (by omega)))⟩⟩, by first | omega | (dsimp only; omega)⟩
          · have hp42 := of_decide_eq_false hg42
            refine W_exit ?_
            refine thenE_x ?_
            refine thenE_x ?_
            refine blockE_hit ?_
            refine thenE_n ?_
            refine W_region ?_
            refine WL_q rfl (ev_loads st36 sz36 rfl (cellsB hB3) rfl) ?_
            refine WL_q rfl (ev_loads st40 sz40 rfl (cellsB hB4) rfl) ?_
            refine WL_q rfl (ev_move rfl) ?_
            refine WL_m rfl (ev_call rfl (stepStates_spec _ m _ A _ _ l[i] _ hm (by omega) (by omega) hA (by omega) (by omega) hr37 (by omega) (by omega) (by assumption) (by assumption))) ?_
            rintro _ w58 ⟨a58, c58, rfl, hO58, hE58⟩
            have hz58 := hE58.size
            replace hE := hE.trans hE58
            replace hRL0 := hRL0.trans hE58
            replace hm := hm.ext hE58
            replace hA := hA.ext hE58
            replace hl := hl.ext hE58
            replace hB3 := hB3.ext hE58
            replace hB4 := hB4.ext hE58
            replace hO31 := hO31.ext hE58
            replace hO := hO.ext hE58
            replace hr37 := hr37.ext hE58
            refine WL_q rfl (ev_assign rfl) ?_
            refine WL_nil ?_
            refine blockE_n ?_
            refine thenE_n ?_
            refine W_region ?_
            refine WL_q rfl (ev_add rfl rfl (by omega)) ?_
            refine WL_q rfl (ev_move rfl) ?_
            refine WL_nil ?_
            refine thenE_n ?_
            have he9 := exT_succ (m := m) (A := A) hlt
            exact ⟨(i + 1, a58, c58), (Subs.c rfl (Subs.c rfl (Subs.c rfl (Subs.c rfl Subs.n)))), (Subs.c (lkS rfl (by rw [he9])) (Subs.c (lkI rfl (by omega)) Subs.n)), ⟨hRL0, ⟨by omega, by rw [he9]; exact hO58.mono (by omega), ff_succ hJ hJ2 (by omega)⟩⟩, by first | omega | (dsimp only; omega)⟩
        · have hp35 := of_decide_eq_false hg35
          refine W_exit ?_
          refine thenE_x ?_
          refine thenE_x ?_
          refine blockE_hit ?_
          refine thenE_n ?_
          refine W_seq ?_
          refine W_region ?_
          refine WL_q rfl (ev_assign rfl) ?_
          refine WL_q rfl (ev_assign rfl) ?_
          refine WL_q rfl (ev_assign rfl) ?_
          refine WL_nil ?_
          refine thenE_n ?_
          refine W_ret ?_
          refine ret3 rfl rfl rfl rfl ?_
          first | (exact ⟨_, _, _, rfl, .no (fun h => hp16 h.1), hE⟩) | (exact ⟨_, _, _, rfl, .no (fun h => tf hg21 h.2.1), hE⟩) | (exact ⟨_, _, _, rfl, .no (any_t hg27), hE⟩) | (exact ⟨_, _, _, rfl, .at hask hlt (by omega) ((Flt.iff hlt (by omega) (by omega)).2 hp51) hJ hJ2, hE⟩) | (exact ⟨_, _, _, rfl, .none hJ (by omega), hE⟩)

set_option maxRecDepth 100000 in
theorem law_FirstFaultOfRun (nm : MA) (m : Mach) (nA : NA) (A : Net) (al : Option Addr) (cl : Nat) (l : List (List Int)) (w : World) (hm : IsMach 0 w.heap.size w nm m) (hsm : SmM m) (hA : IsNet 0 w.heap.size w nA A) (hsA : SmN A) (hl : Intss 0 w.heap.size w al cl l) (hszl : (l.length : Int) ≤ 9223372036854775807) (hszsl : ∀ x ∈ l, (x.length : Int) ≤ 9223372036854775807) :
    Fn Try.prog 10 #[machV nm m, netV nA A, .slice al l.length cl] w (fun v w' => v = VB true ∧ Ext w w') := by
  have hE := Ext.refl w
  refine Fn_of Try.func10 rfl rfl (by kernel_rfl) rfl ?_
  refine W_seq ?_
  refine W_region ?_
  refine WL_m rfl (ev_box rfl) ?_
  rintro _ w3 ⟨rfl, hN3⟩
  have hz3 := hN3.size
  replace hE := hE.trans hN3.ext
  replace hm := hm.ext hN3.ext
  replace hA := hA.ext hN3.ext
  replace hl := hl.ext hN3.ext
  have hB3 : Blk w3 _ _ [_, _, _, _, _, _, _] := hN3.blk
  refine WL_m rfl (ev_box rfl) ?_
  rintro _ w4 ⟨rfl, hN4⟩
  have hz4 := hN4.size
  replace hE := hE.trans hN4.ext
  replace hm := hm.ext hN4.ext
  replace hA := hA.ext hN4.ext
  replace hl := hl.ext hN4.ext
  replace hB3 := hB3.ext hN4.ext
  have hB4 : Blk w4 _ _ [_, _, _] := hN4.blk
  refine WL_q rfl (ev_assign rfl) ?_
  refine WL_nil ?_
  refine thenE_n ?_
  refine W_seq ?_
  refine W_region ?_
  refine WL_q rfl (ev_assign rfl) ?_
  refine WL_nil ?_
  refine thenE_n ?_
  refine W_seq ?_
  refine W_region ?_
  refine WL_q rfl (ev_loads st26 sz26 rfl (cellsB hB3) rfl) ?_
  refine WL_q rfl (ev_move rfl) ?_
  refine WL_m rfl (ev_call rfl (szMachine_spec _ m _ _ hm (by omega) hsm)) ?_
  rintro _ w19 ⟨r19, rfl, hE19, hr19⟩
  have hz19 := hE19.size
  replace hE := hE.trans hE19
  replace hm := hm.ext hE19
  replace hA := hA.ext hE19
  replace hl := hl.ext hE19
  replace hB3 := hB3.ext hE19
  replace hB4 := hB4.ext hE19
  refine WL_q rfl (ev_assign rfl) ?_
  refine WL_nil ?_
  refine thenE_n ?_
  refine W_seq ?_
  refine W_seq ?_
  refine W_region ?_
  refine WL_q rfl (ev_move rfl) ?_
  refine WL_q rfl (ev_lss rfl rfl) ?_
  refine WL_nil ?_
  refine thenE_n ?_
  refine W_cond rfl (fun hg21 => ?_) (fun hg21 => ?_)
  · have hp21 := of_decide_eq_true hg21
    refine W_seq ?_
    refine W_region ?_
    refine WL_q rfl (ev_assign rfl) ?_
    refine WL_nil ?_
    refine thenE_n ?_
    refine W_ret ?_
    refine thenE_r ?_
    refine ret1 rfl rfl ?_
    first | (exact ⟨rfl, hE⟩) | (exact (tfX hg21).elim) | (exact (decF hg21).elim) | (exfalso; omega)
  · have hp21 := of_decide_eq_false hg21
    refine W_skip ?_
    refine thenE_n ?_
    refine W_seq ?_
    refine W_region ?_
    refine WL_q rfl (ev_loads st29 sz29 rfl (cellsB hB4) rfl) ?_
    refine WL_q rfl (ev_move rfl) ?_
    refine WL_m rfl (ev_call rfl (szNetwork_spec _ A _ _ hA (by omega) hsA)) ?_
    rintro _ w24 ⟨r24, rfl, hE24, hr24⟩
    have hz24 := hE24.size
    replace hE := hE.trans hE24
    replace hm := hm.ext hE24
    replace hA := hA.ext hE24
    replace hl := hl.ext hE24
    replace hB3 := hB3.ext hE24
    replace hB4 := hB4.ext hE24
    refine WL_q rfl (ev_assign rfl) ?_
    refine WL_nil ?_
    refine thenE_n ?_
    refine W_seq ?_
    refine W_seq ?_
    refine W_region ?_
    refine WL_q rfl (ev_move rfl) ?_
    refine WL_q rfl (ev_lss rfl rfl) ?_
    refine WL_nil ?_
    refine thenE_n ?_
    refine W_cond rfl (fun hg26 => ?_) (fun hg26 => ?_)
    · have hp26 := of_decide_eq_true hg26
      refine W_seq ?_
      refine W_region ?_
      refine WL_q rfl (ev_assign rfl) ?_
      refine WL_nil ?_
      refine thenE_n ?_
      refine W_ret ?_
      refine thenE_r ?_
      refine ret1 rfl rfl ?_
      first | (exact ⟨rfl, hE⟩) | (exact (tfX hg26).elim) | (exact (decF hg26).elim) | (exfalso; omega)
    · have hp26 := of_decide_eq_false hg26
      refine W_skip ?_
      refine thenE_n ?_
      refine W_seq ?_
      refine W_region ?_
      refine WL_q rfl (ev_move rfl) ?_
      refine WL_q rfl (ev_move rfl) ?_
      refine WL_m rfl (ev_call rfl (szIntSS_spec _ _ _ _ _ (by assumption) (by omega) (by omega) (by assumption))) ?_
      rintro _ w29 ⟨r29, rfl, hE29, hr29⟩
      have hz29 := hE29.size
      replace hE := hE.trans hE29
      replace hm := hm.ext hE29
      replace hA := hA.ext hE29
      replace hl := hl.ext hE29
      replace hB3 := hB3.ext hE29
      replace hB4 := hB4.ext hE29
      refine WL_q rfl (ev_assign rfl) ?_
      refine WL_nil ?_
      refine thenE_n ?_
      refine W_seq ?_
      refine W_seq ?_
      refine W_region ?_
      refine WL_q rfl (ev_move rfl) ?_
      refine WL_q rfl (ev_lss rfl rfl) ?_
      refine WL_nil ?_
      refine thenE_n ?_
      refine W_cond rfl (fun hg31 => ?_) (fun hg31 => ?_)
      · have hp31 := of_decide_eq_true hg31
        refine W_seq ?_
        refine W_region ?_
        refine WL_q rfl (ev_assign rfl) ?_
        refine WL_nil ?_
        refine thenE_n ?_
        refine W_ret ?_
        refine thenE_r ?_
        refine ret1 rfl rfl ?_
        first | (exact ⟨rfl, hE⟩) | (exact (tfX hg31).elim) | (exact (decF hg31).elim) | (exfalso; omega)
      · have hp31 := of_decide_eq_false hg31
        refine W_skip ?_
        refine thenE_n ?_
        refine W_seq ?_
        refine W_drawE [(0, true), (2, true), (4, true), (1, false), (3, false), (5, false), (6, false), (7, true), (8, true), (9, true), (10, true), (11, true), (12, true), (13, true)] mixed (by kernel_rfl) rfl (by kernel_rfl) ?_
        intro wd11 hEd11 hzd11
        replace hE := hE.trans hEd11
        replace hm := hm.ext hEd11
        replace hA := hA.ext hEd11
        replace hl := hl.ext hEd11
        replace hB3 := hB3.ext hEd11
        replace hB4 := hB4.ext hEd11
        have hDd11 := Ext.refl wd11
        refine PW_q rfl rfl (fun wq hq => ev_loads st26 sz26 rfl (cellsB (hq.blk hB3)) rfl) ?_
        refine PW_q rfl rfl (fun wq hq => ev_loads st29 sz29 rfl (cellsB (hq.blk hB4)) rfl) ?_
        refine PW_q rfl rfl (fun wq hq => ev_move rfl) ?_
        refine PW_m rfl rfl (ev_call rfl (toMachine_spec _ m _ hm (by omega) (by omega))) ?_
        rintro _ w34 ⟨h34, rfl, hF34, hE34⟩
        have hz34 := hE34.size
        replace hE := hE.trans hE34
        replace hDd11 := hDd11.trans hE34
        have hM34 := hF34.is
        refine ⟨hDd11, ?_⟩
        have hm_3 := hm.ext hDd11
        have hA_3 := hA.ext hDd11
        have hl_3 := hl.ext hDd11
        have hB3_3 := hB3.ext hDd11
        have hB4_3 := hB4.ext hDd11
        refine PW_m rfl rfl (ev_call rfl (toNetwork_spec _ A _ hA_3 (by omega) (by omega))) ?_
        rintro _ w36 ⟨h36, rfl, hF36, hE36⟩
        have hz36 := hE36.size
        replace hE := hE.trans hE36
        replace hDd11 := hDd11.trans hE36
        replace hF34 := hF34.ext hE36
        replace hM34 := hM34.ext hE36
        have hN36 := hF36.is
        refine ⟨hDd11, ?_⟩
        have hm_5 := hm.ext hDd11
        have hA_5 := hA.ext hDd11
        have hl_5 := hl.ext hDd11
        have hB3_5 := hB3.ext hDd11
        have hB4_5 := hB4.ext hDd11
        refine PW_m rfl rfl (ev_call rfl (toIntSS_spec _ _ l _ hl_5 (by omega) (by omega))) ?_
        rintro _ w38 ⟨a38, rfl, hF38, hE38⟩
        have hz38 := hE38.size
        replace hE := hE.trans hE38
        replace hDd11 := hDd11.trans hE38
        replace hF34 := hF34.ext hE38
        replace hM34 := hM34.ext hE38
        replace hF36 := hF36.ext hE38
        replace hN36 := hN36.ext hE38
        have hI38 := hF38.is
        refine ⟨hDd11, ?_⟩
        have hm_6 := hm.ext hDd11
        have hA_6 := hA.ext hDd11
        have hl_6 := hl.ext hDd11
        have hB3_6 := hB3.ext hDd11
        have hB4_6 := hB4.ext hDd11
        refine PW_m rfl rfl (ev_call rfl (sFirstFault_spec _ m _ A _ _ l _ hM34 (by omega) (by omega) hN36 (by omega) (by omega) hI38 (by omega) (by omega))) ?_
        rintro _ w39 ⟨x39, y39, q39, rfl, hr39, hE39⟩
        have hz39 := hE39.size
        replace hE := hE.trans hE39
        replace hDd11 := hDd11.trans hE39
        replace hF34 := hF34.ext hE39
        replace hM34 := hM34.ext hE39
        replace hF36 := hF36.ext hE39
        replace hN36 := hN36.ext hE39
        replace hF38 := hF38.ext hE39
        replace hI38 := hI38.ext hE39
        refine ⟨hDd11, ?_⟩
        refine PW_q rfl rfl (fun wq hq => ev_move rfl) ?_
        refine PW_q rfl rfl (fun wq hq => ev_extract rfl rfl) ?_
        refine PW_q rfl rfl (fun wq hq => ev_extract rfl rfl) ?_
        refine PW_q rfl rfl (fun wq hq => ev_extract rfl rfl) ?_
        refine PW_q rfl rfl (fun wq hq => ev_assign rfl) ?_
        refine PW_q rfl rfl (fun wq hq => ev_assign rfl) ?_
        refine PW_q rfl rfl (fun wq hq => ev_assign rfl) ?_
        replace hm := hm.ext hDd11
        replace hA := hA.ext hDd11
        replace hl := hl.ext hDd11
        replace hB3 := hB3.ext hDd11
        replace hB4 := hB4.ext hDd11
        refine PW_nil ?_
        refine thenE_n ?_
        refine W_seq ?_
        refine W_region ?_
        refine WL_q rfl (ev_loads st26 sz26 rfl (cellsB hB3) rfl) ?_
        refine WL_m rfl (ev_call rfl (toMachine_spec _ m _ hm (by omega) (by omega))) ?_
        rintro _ w44 ⟨h44, rfl, hF44, hE44⟩
        have hz44 := hE44.size
        replace hE := hE.trans hE44
        replace hm := hm.ext hE44
        replace hA := hA.ext hE44
        replace hl := hl.ext hE44
        replace hB3 := hB3.ext hE44
        replace hB4 := hB4.ext hE44
        replace hF34 := hF34.ext hE44
        replace hM34 := hM34.ext hE44
        replace hF36 := hF36.ext hE44
        replace hN36 := hN36.ext hE44
        replace hF38 := hF38.ext hE44
        replace hI38 := hI38.ext hE44
        have hM44 := hF44.is
        refine WL_m rfl (ev_alloc zr36) ?_
        rintro _ w11 ⟨rfl, hN11⟩
        have hz11 := hN11.size
        replace hE := hE.trans hN11.ext
        replace hm := hm.ext hN11.ext
        replace hA := hA.ext hN11.ext
        replace hl := hl.ext hN11.ext
        replace hB3 := hB3.ext hN11.ext
        replace hB4 := hB4.ext hN11.ext
        replace hF34 := hF34.ext hN11.ext
        replace hM34 := hM34.ext hN11.ext
        replace hF36 := hF36.ext hN11.ext
        replace hN36 := hN36.ext hN11.ext
        replace hF38 := hF38.ext hN11.ext
        replace hI38 := hI38.ext hN11.ext
        replace hF44 := hF44.ext hN11.ext
        replace hM44 := hM44.ext hN11.ext
        have hB11 : Blk w11 _ _ [_, _, _, _, _, _, _] := hN11.blk
        refine WL_s (ev_stores sz36 rfl rfl rfl (by simp [Value.oneCell']) hB11 (by simp)) ?_
        rintro _ w12_3 hS12_3
        have hz12_3 := hS12_3.size
        replace hE := hE.sto hS12_3 (by omega)
        replace hm := hm.sto hS12_3 (by omega)
        replace hA := hA.sto hS12_3 (by omega)
        replace hl := hl.sto hS12_3 (by omega)
        replace hB3 := hB3.sto hS12_3 (by omega)
        replace hB4 := hB4.sto hS12_3 (by omega)
        replace hF34 := hF34.sto hS12_3 (by omega)
        replace hM34 := hM34.sto hS12_3 (by omega)
        replace hF36 := hF36.sto hS12_3 (by omega)
        replace hN36 := hN36.sto hS12_3 (by omega)
        replace hF38 := hF38.sto hS12_3 (by omega)
        replace hI38 := hI38.sto hS12_3 (by omega)
        replace hF44 := hF44.sto hS12_3 (by omega)
        replace hM44 := hM44.sto hS12_3 (by omega)
        replace hB11 : Blk w12_3 _ _ [_, _, _, _, _, _, _] := hS12_3.blk
        refine WL_nil ?_
        refine thenE_n ?_
        refine W_seq ?_
        refine W_region ?_
        refine WL_q rfl (ev_loads st29 sz29 rfl (cellsB hB4) rfl) ?_
        refine WL_m rfl (ev_call rfl (toNetwork_spec _ A _ hA (by omega) (by omega))) ?_
        rintro _ w46 ⟨h46, rfl, hF46, hE46⟩
        have hz46 := hE46.size
        replace hE := hE.trans hE46
        replace hm := hm.ext hE46
        replace hA := hA.ext hE46
        replace hl := hl.ext hE46
        replace hB3 := hB3.ext hE46
        replace hB4 := hB4.ext hE46
        replace hF34 := hF34.ext hE46
        replace hM34 := hM34.ext hE46
        replace hF36 := hF36.ext hE46
        replace hN36 := hN36.ext hE46
        replace hF38 := hF38.ext hE46
        replace hI38 := hI38.ext hE46
        replace hF44 := hF44.ext hE46
        replace hM44 := hM44.ext hE46
        replace hB11 := hB11.ext hE46
        have hN46 := hF46.is
        refine WL_m rfl (ev_alloc zr40) ?_
        rintro _ w12 ⟨rfl, hN12⟩
        have hz12 := hN12.size
        replace hE := hE.trans hN12.ext
        replace hm := hm.ext hN12.ext
        replace hA := hA.ext hN12.ext
        replace hl := hl.ext hN12.ext
        replace hB3 := hB3.ext hN12.ext
        replace hB4 := hB4.ext hN12.ext
        replace hF34 := hF34.ext hN12.ext
        replace hM34 := hM34.ext hN12.ext
        replace hF36 := hF36.ext hN12.ext
        replace hN36 := hN36.ext hN12.ext
        replace hF38 := hF38.ext hN12.ext
        replace hI38 := hI38.ext hN12.ext
        replace hF44 := hF44.ext hN12.ext
        replace hM44 := hM44.ext hN12.ext
        replace hB11 := hB11.ext hN12.ext
        replace hF46 := hF46.ext hN12.ext
        replace hN46 := hN46.ext hN12.ext
        have hB12 : Blk w12 _ _ [_, _, _] := hN12.blk
        refine WL_s (ev_stores sz40 rfl rfl rfl (by simp [Value.oneCell']) hB12 (by simp)) ?_
        rintro _ w13_3 hS13_3
        have hz13_3 := hS13_3.size
        replace hE := hE.sto hS13_3 (by omega)
        replace hm := hm.sto hS13_3 (by omega)
        replace hA := hA.sto hS13_3 (by omega)
        replace hl := hl.sto hS13_3 (by omega)
        replace hB3 := hB3.sto hS13_3 (by omega)
        replace hB4 := hB4.sto hS13_3 (by omega)
        replace hF34 := hF34.sto hS13_3 (by omega)
        replace hM34 := hM34.sto hS13_3 (by omega)
        replace hF36 := hF36.sto hS13_3 (by omega)
        replace hN36 := hN36.sto hS13_3 (by omega)
        replace hF38 := hF38.sto hS13_3 (by omega)
        replace hI38 := hI38.sto hS13_3 (by omega)
        replace hF44 := hF44.sto hS13_3 (by omega)
        replace hM44 := hM44.sto hS13_3 (by omega)
        replace hB11 := hB11.sto hS13_3 (by omega)
        replace hF46 := hF46.sto hS13_3 (by omega)
        replace hN46 := hN46.sto hS13_3 (by omega)
        replace hB12 : Blk w13_3 _ _ [_, _, _] := hS13_3.blk
        refine WL_nil ?_
        refine thenE_n ?_
        refine W_seq ?_
        refine W_region ?_
        refine WL_q rfl (ev_move rfl) ?_
        refine WL_m rfl (ev_call rfl (toIntSS_spec _ _ l _ hl (by omega) (by omega))) ?_
        rintro _ w48 ⟨a48, rfl, hF48, hE48⟩
        have hz48 := hE48.size
        replace hE := hE.trans hE48
        replace hm := hm.ext hE48
        replace hA := hA.ext hE48
        replace hl := hl.ext hE48
        replace hB3 := hB3.ext hE48
        replace hB4 := hB4.ext hE48
        replace hF34 := hF34.ext hE48
        replace hM34 := hM34.ext hE48
        replace hF36 := hF36.ext hE48
        replace hN36 := hN36.ext hE48
        replace hF38 := hF38.ext hE48
        replace hI38 := hI38.ext hE48
        replace hF44 := hF44.ext hE48
        replace hM44 := hM44.ext hE48
        replace hB11 := hB11.ext hE48
        replace hF46 := hF46.ext hE48
        replace hN46 := hN46.ext hE48
        replace hB12 := hB12.ext hE48
        have hI48 := hF48.is
        refine WL_q rfl (ev_assign rfl) ?_
        refine WL_nil ?_
        refine thenE_n ?_
        refine W_seq ?_
        refine W_region ?_
        refine WL_q rfl (ev_loads st36 sz36 rfl (cellsB hB11) rfl) ?_
        refine WL_q rfl (ev_loads st40 sz40 rfl (cellsB hB12) rfl) ?_
        refine WL_q rfl (ev_move rfl) ?_
        refine WL_m rfl (ev_call rfl (FirstFault_spec _ m _ A _ _ l _ hM44 (by omega) (by omega) hN46 (by omega) (by omega) hI48 (by omega) (by omega))) ?_
        rintro _ w53 ⟨x53, y53, q53, rfl, hr53, hE53⟩
        have hz53 := hE53.size
        replace hE := hE.trans hE53
        replace hm := hm.ext hE53
        replace hA := hA.ext hE53
        replace hl := hl.ext hE53
        replace hB3 := hB3.ext hE53
        replace hB4 := hB4.ext hE53
        replace hF34 := hF34.ext hE53
        replace hM34 := hM34.ext hE53
        replace hF36 := hF36.ext hE53
        replace hN36 := hN36.ext hE53
        replace hF38 := hF38.ext hE53
        replace hI38 := hI38.ext hE53
        replace hF44 := hF44.ext hE53
        replace hM44 := hM44.ext hE53
        replace hB11 := hB11.ext hE53
        replace hF46 := hF46.ext hE53
        replace hN46 := hN46.ext hE53
        replace hB12 := hB12.ext hE53
        replace hF48 := hF48.ext hE53
        replace hI48 := hI48.ext hE53
        refine WL_q rfl (ev_move rfl) ?_
        refine WL_q rfl (ev_extract rfl rfl) ?_
        refine WL_q rfl (ev_extract rfl rfl) ?_
        refine WL_q rfl (ev_extract rfl rfl) ?_
        refine WL_q rfl (ev_assign rfl) ?_
        refine WL_q rfl (ev_assign rfl) ?_
        refine WL_q rfl (ev_assign rfl) ?_
        refine WL_nil ?_
        refine thenE_n ?_
        refine W_seq ?_
        refine W_seq ?_
        refine W_region ?_
        refine WL_q rfl (ev_move rfl) ?_
        refine WL_q rfl (ev_move rfl) ?_
        refine WL_q rfl (ev_neq rfl rfl) ?_
        refine WL_q rfl (ev_move rfl) ?_
        refine WL_splitv (t := 60) rfl (fun hg59 => ?_) (fun hg59 => ?_)
        · have hp59 := of_decide_eq_true hg59
          refine WL_no rfl rfl hg59 rfl ?_
          refine WL_no rfl rfl hg59 rfl ?_
          refine WL_no rfl rfl hg59 rfl ?_
          refine WL_q rfl (ev_pick_t rfl hg59 rfl) ?_
          refine WL_q rfl (ev_move rfl) ?_
          refine WL_no rfl rfl rfl rfl ?_
          refine WL_no rfl rfl rfl rfl ?_
          refine WL_no rfl rfl rfl rfl ?_
          refine WL_q rfl (ev_pick_t rfl rfl rfl) ?_
          refine WL_nil ?_
          refine thenE_n ?_
          refine W_cond_t rfl ?_
          refine W_seq ?_
          refine W_region ?_
          refine WL_q rfl (ev_assign rfl) ?_
          refine WL_nil ?_
          refine thenE_n ?_
          refine W_ret ?_
          refine thenE_r ?_
          refine ret1 rfl rfl ?_
          first | (exact ⟨rfl, hE⟩) | (exact (bneE hg59 (hr53.det1 hr39)).elim) | (exact absurd (hr53.det1 hr39) hp59) | (exact absurd (hr53.det1 hr39) (of_decide_eq_false hg59)) | (exact (bneE hg59 (hr53.det2 hr39)).elim) | (exact absurd (hr53.det2 hr39) hp59) | (exact absurd (hr53.det2 hr39) (of_decide_eq_false hg59)) | (exact (bneE hg59 (hr53.det3 hr39)).elim) | (exact absurd (hr53.det3 hr39) hp59) | (exact absurd (hr53.det3 hr39) (of_decide_eq_false hg59)) | (exact (tfX hg59).elim) | (exact (decF hg59).elim) | (exfalso; omega)
        · have hp59 := of_decide_eq_false hg59
          refine WL_qg rfl rfl hg59 rfl (ev_move rfl) ?_
          refine WL_qg rfl rfl hg59 rfl (ev_move rfl) ?_
          refine WL_qg rfl rfl hg59 rfl (ev_neq rfl rfl) ?_
          refine WL_q rfl (ev_pick_f rfl hg59 rfl) ?_
          refine WL_q rfl (ev_move rfl) ?_
          refine WL_splitv (t := 65) rfl (fun hg63 => ?_) (fun hg63 => ?_)
          · have hp63 := of_decide_eq_true hg63
            refine WL_no rfl rfl hg63 rfl ?_
            refine WL_no rfl rfl hg63 rfl ?_
            refine WL_no rfl rfl hg63 rfl ?_
            refine WL_q rfl (ev_pick_t rfl hg63 rfl) ?_
            refine WL_nil ?_
            refine thenE_n ?_
            refine W_cond_t rfl ?_
            refine W_seq ?_
            refine W_region ?_
            refine WL_q rfl (ev_assign rfl) ?_
            refine WL_nil ?_
            refine thenE_n ?_
            refine W_ret ?_
            refine thenE_r ?_
            refine ret1 rfl rfl ?_
            first | (exact ⟨rfl, hE⟩) | (exact (bneE hg63 (hr53.det1 hr39)).elim) | (exact absurd (hr53.det1 hr39) hp63) | (exact absurd (hr53.det1 hr39) (of_decide_eq_false hg63)) | (exact (bneE hg63 (hr53.det2 hr39)).elim) | (exact absurd (hr53.det2 hr39) hp63) | (exact absurd (hr53.det2 hr39) (of_decide_eq_false hg63)) | (exact (bneE hg63 (hr53.det3 hr39)).elim) | (exact absurd (hr53.det3 hr39) hp63) | (exact absurd (hr53.det3 hr39) (of_decide_eq_false hg63)) | (exact (tfX hg63).elim) | (exact (decF hg63).elim) | (exfalso; omega)
          · have hp63 := of_decide_eq_false hg63
            refine WL_qg rfl rfl hg63 rfl (ev_move rfl) ?_
            refine WL_qg rfl rfl hg63 rfl (ev_move rfl) ?_
            refine WL_qg rfl rfl hg63 rfl (ev_neq_b Try.underlying4 rfl rfl) ?_
            refine WL_q rfl (ev_pick_f rfl hg63 rfl) ?_
            refine WL_nil ?_
            refine thenE_n ?_
            refine W_cond rfl (fun hg68 => ?_) (fun hg68 => ?_)
            · refine W_seq ?_
              refine W_region ?_
              refine WL_q rfl (ev_assign rfl) ?_
              refine WL_nil ?_
              refine thenE_n ?_
              refine W_ret ?_
              refine thenE_r ?_
              refine ret1 rfl rfl ?_
              first | (exact ⟨rfl, hE⟩) | (exact (bneE hg68 (hr53.det1 hr39)).elim) | (exact absurd (hr53.det1 hr39) hp68) | (exact absurd (hr53.det1 hr39) (of_decide_eq_false hg68)) | (exact (bneE hg68 (hr53.det2 hr39)).elim) | (exact absurd (hr53.det2 hr39) hp68) | (exact absurd (hr53.det2 hr39) (of_decide_eq_false hg68)) | (exact (bneE hg68 (hr53.det3 hr39)).elim) | (exact absurd (hr53.det3 hr39) hp68) | (exact absurd (hr53.det3 hr39) (of_decide_eq_false hg68)) | (exact (tfX hg68).elim) | (exact (decF hg68).elim) | (exfalso; omega)
            · refine W_skip ?_
              refine thenE_n ?_
              refine W_seq ?_
              refine W_seq ?_
              refine W_drawE [(0, true), (1, true), (2, false), (3, false), (4, true)] mixed (by kernel_rfl) rfl (by kernel_rfl) ?_
              intro wd18 hEd18 hzd18
              replace hE := hE.trans hEd18
              replace hm := hm.ext hEd18
              replace hA := hA.ext hEd18
              replace hl := hl.ext hEd18
              replace hB3 := hB3.ext hEd18
              replace hB4 := hB4.ext hEd18
              replace hF34 := hF34.ext hEd18
              replace hM34 := hM34.ext hEd18
              replace hF36 := hF36.ext hEd18
              replace hN36 := hN36.ext hEd18
              replace hF38 := hF38.ext hEd18
              replace hI38 := hI38.ext hEd18
              replace hF44 := hF44.ext hEd18
              replace hM44 := hM44.ext hEd18
              replace hB11 := hB11.ext hEd18
              replace hF46 := hF46.ext hEd18
              replace hN46 := hN46.ext hEd18
              replace hB12 := hB12.ext hEd18
              replace hF48 := hF48.ext hEd18
              replace hI48 := hI48.ext hEd18
              have hDd18 := Ext.refl wd18
              refine PW_q rfl rfl (fun wq hq => ev_loads st36 sz36 rfl (cellsB (hq.blk hB11)) rfl) ?_
              refine PW_q rfl rfl (fun wq hq => ev_loads st26 sz26 rfl (cellsB (hq.blk hB3)) rfl) ?_
              refine PW_m rfl rfl (ev_call rfl (toMachine_spec _ m _ hm (by omega) (by omega))) ?_
              rintro _ w72 ⟨h72, rfl, hF72, hE72⟩
              have hz72 := hE72.size
              replace hE := hE.trans hE72
              replace hDd18 := hDd18.trans hE72
              have hM72 := hF72.is
              refine ⟨hDd18, ?_⟩
              have hm_3 := hm.ext hDd18
              have hA_3 := hA.ext hDd18
              have hl_3 := hl.ext hDd18
              have hB3_3 := hB3.ext hDd18
              have hB4_3 := hB4.ext hDd18
              have hF34_3 := hF34.ext hDd18
              have hM34_3 := hM34.ext hDd18
              have hF36_3 := hF36.ext hDd18
              have hN36_3 := hN36.ext hDd18
              have hF38_3 := hF38.ext hDd18
              have hI38_3 := hI38.ext hDd18
              have hF44_3 := hF44.ext hDd18
              have hM44_3 := hM44.ext hDd18
              have hB11_3 := hB11.ext hDd18
              have hF46_3 := hF46.ext hDd18
              have hN46_3 := hN46.ext hDd18
              have hB12_3 := hB12.ext hDd18
              have hF48_3 := hF48.ext hDd18
              have hI48_3 := hI48.ext hDd18
              refine PW_m rfl rfl (ev_call rfl (eqMachine_spec _ _ m _ hM44_3 hM72 (by omega))) ?_
              rintro _ w73 ⟨rfl, hE73⟩
              have hz73 := hE73.size
              replace hE := hE.trans hE73
              replace hDd18 := hDd18.trans hE73
              replace hF72 := hF72.ext hE73
              replace hM72 := hM72.ext hE73
              refine ⟨hDd18, ?_⟩
              refine PW_q rfl rfl (fun wq hq => ev_not rfl) ?_
              replace hm := hm.ext hDd18
              replace hA := hA.ext hDd18
              replace hl := hl.ext hDd18
              replace hB3 := hB3.ext hDd18
              replace hB4 := hB4.ext hDd18
              replace hF34 := hF34.ext hDd18
              replace hM34 := hM34.ext hDd18
              replace hF36 := hF36.ext hDd18
              replace hN36 := hN36.ext hDd18
              replace hF38 := hF38.ext hDd18
              replace hI38 := hI38.ext hDd18
              replace hF44 := hF44.ext hDd18
              replace hM44 := hM44.ext hDd18
              replace hB11 := hB11.ext hDd18
              replace hF46 := hF46.ext hDd18
              replace hN46 := hN46.ext hDd18
              replace hB12 := hB12.ext hDd18
              replace hF48 := hF48.ext hDd18
              replace hI48 := hI48.ext hDd18
              refine PW_nil ?_
              refine thenE_n ?_
              refine W_cond rfl (fun hg74 => ?_) (fun hg74 => ?_)
              · have hg73 := not_true hg74
                refine W_seq ?_
                refine W_region ?_
                refine WL_q rfl (ev_assign rfl) ?_
                refine WL_nil ?_
                refine thenE_n ?_
                refine W_ret ?_
                refine thenE_r ?_
                refine ret1 rfl rfl ?_
                first | (exact ⟨rfl, hE⟩) | (exact (bneE hg73 (hr53.det1 hr39)).elim) | (exact absurd (hr53.det1 hr39) hp73) | (exact absurd (hr53.det1 hr39) (of_decide_eq_false hg73)) | (exact (bneE hg73 (hr53.det2 hr39)).elim) | (exact absurd (hr53.det2 hr39) hp73) | (exact absurd (hr53.det2 hr39) (of_decide_eq_false hg73)) | (exact (bneE hg73 (hr53.det3 hr39)).elim) | (exact absurd (hr53.det3 hr39) hp73) | (exact absurd (hr53.det3 hr39) (of_decide_eq_false hg73)) | (exact (tfX hg73).elim) | (exact (decF hg73).elim) | (exfalso; omega)
              · have hg73 := not_false hg74
                refine W_skip ?_
                refine thenE_n ?_
                refine W_seq ?_
                refine W_seq ?_
                refine W_drawE [(0, true), (1, true), (2, false), (3, false), (4, true)] mixed (by kernel_rfl) rfl (by kernel_rfl) ?_
                intro wd20 hEd20 hzd20
                replace hE := hE.trans hEd20
                replace hm := hm.ext hEd20
                replace hA := hA.ext hEd20
                replace hl := hl.ext hEd20
                replace hB3 := hB3.ext hEd20
                replace hB4 := hB4.ext hEd20
                replace hF34 := hF34.ext hEd20
                replace hM34 := hM34.ext hEd20
                replace hF36 := hF36.ext hEd20
                replace hN36 := hN36.ext hEd20
                replace hF38 := hF38.ext hEd20
                replace hI38 := hI38.ext hEd20
                replace hF44 := hF44.ext hEd20
                replace hM44 := hM44.ext hEd20
                replace hB11 := hB11.ext hEd20
                replace hF46 := hF46.ext hEd20
                replace hN46 := hN46.ext hEd20
                replace hB12 := hB12.ext hEd20
                replace hF48 := hF48.ext hEd20
                replace hI48 := hI48.ext hEd20
                replace hF72 := hF72.ext hEd20
                replace hM72 := hM72.ext hEd20
                have hDd20 := Ext.refl wd20
                refine PW_q rfl rfl (fun wq hq => ev_loads st40 sz40 rfl (cellsB (hq.blk hB12)) rfl) ?_
                refine PW_q rfl rfl (fun wq hq => ev_loads st29 sz29 rfl (cellsB (hq.blk hB4)) rfl) ?_
                refine PW_m rfl rfl (ev_call rfl (toNetwork_spec _ A _ hA (by omega) (by omega))) ?_
                rintro _ w77 ⟨h77, rfl, hF77, hE77⟩
                have hz77 := hE77.size
                replace hE := hE.trans hE77
                replace hDd20 := hDd20.trans hE77
                have hN77 := hF77.is
                refine ⟨hDd20, ?_⟩
                have hm_3 := hm.ext hDd20
                have hA_3 := hA.ext hDd20
                have hl_3 := hl.ext hDd20
                have hB3_3 := hB3.ext hDd20
                have hB4_3 := hB4.ext hDd20
                have hF34_3 := hF34.ext hDd20
                have hM34_3 := hM34.ext hDd20
                have hF36_3 := hF36.ext hDd20
                have hN36_3 := hN36.ext hDd20
                have hF38_3 := hF38.ext hDd20
                have hI38_3 := hI38.ext hDd20
                have hF44_3 := hF44.ext hDd20
                have hM44_3 := hM44.ext hDd20
                have hB11_3 := hB11.ext hDd20
                have hF46_3 := hF46.ext hDd20
                have hN46_3 := hN46.ext hDd20
                have hB12_3 := hB12.ext hDd20
                have hF48_3 := hF48.ext hDd20
                have hI48_3 := hI48.ext hDd20
                have hF72_3 := hF72.ext hDd20
                have hM72_3 := hM72.ext hDd20
                refine PW_m rfl rfl (ev_call rfl (eqNetwork_spec _ _ A _ hN46_3 hN77 (by omega))) ?_
                rintro _ w78 ⟨rfl, hE78⟩
                have hz78 := hE78.size
                replace hE := hE.trans hE78
                replace hDd20 := hDd20.trans hE78
                replace hF77 := hF77.ext hE78
                replace hN77 := hN77.ext hE78
                refine ⟨hDd20, ?_⟩
                refine PW_q rfl rfl (fun wq hq => ev_not rfl) ?_
                replace hm := hm.ext hDd20
                replace hA := hA.ext hDd20
                replace hl := hl.ext hDd20
                replace hB3 := hB3.ext hDd20
                replace hB4 := hB4.ext hDd20
                replace hF34 := hF34.ext hDd20
                replace hM34 := hM34.ext hDd20
                replace hF36 := hF36.ext hDd20
                replace hN36 := hN36.ext hDd20
                replace hF38 := hF38.ext hDd20
                replace hI38 := hI38.ext hDd20
                replace hF44 := hF44.ext hDd20
                replace hM44 := hM44.ext hDd20
                replace hB11 := hB11.ext hDd20
                replace hF46 := hF46.ext hDd20
                replace hN46 := hN46.ext hDd20
                replace hB12 := hB12.ext hDd20
                replace hF48 := hF48.ext hDd20
                replace hI48 := hI48.ext hDd20
                replace hF72 := hF72.ext hDd20
                replace hM72 := hM72.ext hDd20
                refine PW_nil ?_
                refine thenE_n ?_
                refine W_cond rfl (fun hg79 => ?_) (fun hg79 => ?_)
                · have hg78 := not_true hg79
                  refine W_seq ?_
                  refine W_region ?_
                  refine WL_q rfl (ev_assign rfl) ?_
                  refine WL_nil ?_
                  refine thenE_n ?_
                  refine W_ret ?_
                  refine thenE_r ?_
                  refine ret1 rfl rfl ?_
                  first | (exact ⟨rfl, hE⟩) | (exact (bneE hg78 (hr53.det1 hr39)).elim) | (exact absurd (hr53.det1 hr39) hp78) | (exact absurd (hr53.det1 hr39) (of_decide_eq_false hg78)) | (exact (bneE hg78 (hr53.det2 hr39)).elim) | (exact absurd (hr53.det2 hr39) hp78) | (exact absurd (hr53.det2 hr39) (of_decide_eq_false hg78)) | (exact (bneE hg78 (hr53.det3 hr39)).elim) | (exact absurd (hr53.det3 hr39) hp78) | (exact absurd (hr53.det3 hr39) (of_decide_eq_false hg78)) | (exact (tfX hg78).elim) | (exact (decF hg78).elim) | (exfalso; omega)
                · have hg78 := not_false hg79
                  refine W_skip ?_
                  refine thenE_n ?_
                  refine W_seq ?_
                  refine W_seq ?_
                  refine W_region ?_
                  refine WL_q rfl (ev_move rfl) ?_
                  refine WL_q rfl (ev_move rfl) ?_
                  refine WL_m rfl (ev_call rfl (toIntSS_spec _ _ l _ hl (by omega) (by omega))) ?_
                  rintro _ w82 ⟨a82, rfl, hF82, hE82⟩
                  have hz82 := hE82.size
                  replace hE := hE.trans hE82
                  replace hm := hm.ext hE82
                  replace hA := hA.ext hE82
                  replace hl := hl.ext hE82
                  replace hB3 := hB3.ext hE82
                  replace hB4 := hB4.ext hE82
                  replace hF34 := hF34.ext hE82
                  replace hM34 := hM34.ext hE82
                  replace hF36 := hF36.ext hE82
                  replace hN36 := hN36.ext hE82
                  replace hF38 := hF38.ext hE82
                  replace hI38 := hI38.ext hE82
                  replace hF44 := hF44.ext hE82
                  replace hM44 := hM44.ext hE82
                  replace hB11 := hB11.ext hE82
                  replace hF46 := hF46.ext hE82
                  replace hN46 := hN46.ext hE82
                  replace hB12 := hB12.ext hE82
                  replace hF48 := hF48.ext hE82
                  replace hI48 := hI48.ext hE82
                  replace hF72 := hF72.ext hE82
                  replace hM72 := hM72.ext hE82
                  replace hF77 := hF77.ext hE82
                  replace hN77 := hN77.ext hE82
                  have hI82 := hF82.is
                  refine WL_m rfl (ev_call rfl (eqIntSS_spec _ _ _ _ l l _ hI48 hI82 (by omega))) ?_
                  rintro _ w83 ⟨rfl, hE83⟩
                  have hz83 := hE83.size
                  replace hE := hE.trans hE83
                  replace hm := hm.ext hE83
                  replace hA := hA.ext hE83
                  replace hl := hl.ext hE83
                  replace hB3 := hB3.ext hE83
                  replace hB4 := hB4.ext hE83
                  replace hF34 := hF34.ext hE83
                  replace hM34 := hM34.ext hE83
                  replace hF36 := hF36.ext hE83
                  replace hN36 := hN36.ext hE83
                  replace hF38 := hF38.ext hE83
                  replace hI38 := hI38.ext hE83
                  replace hF44 := hF44.ext hE83
                  replace hM44 := hM44.ext hE83
                  replace hB11 := hB11.ext hE83
                  replace hF46 := hF46.ext hE83
                  replace hN46 := hN46.ext hE83
                  replace hB12 := hB12.ext hE83
                  replace hF48 := hF48.ext hE83
                  replace hI48 := hI48.ext hE83
                  replace hF72 := hF72.ext hE83
                  replace hM72 := hM72.ext hE83
                  replace hF77 := hF77.ext hE83
                  replace hN77 := hN77.ext hE83
                  replace hF82 := hF82.ext hE83
                  replace hI82 := hI82.ext hE83
                  refine WL_q rfl (ev_not rfl) ?_
                  refine WL_nil ?_
                  refine thenE_n ?_
                  refine W_cond rfl (fun hg84 => ?_) (fun hg84 => ?_)
                  · have hg83 := not_true hg84
                    refine W_seq ?_
                    refine W_region ?_
                    refine WL_q rfl (ev_assign rfl) ?_
                    refine WL_nil ?_
                    refine thenE_n ?_
                    refine W_ret ?_
                    refine thenE_r ?_
                    refine ret1 rfl rfl ?_
                    first | (exact ⟨rfl, hE⟩) | (exact (bneE hg83 (hr53.det1 hr39)).elim) | (exact absurd (hr53.det1 hr39) hp83) | (exact absurd (hr53.det1 hr39) (of_decide_eq_false hg83)) | (exact (bneE hg83 (hr53.det2 hr39)).elim) | (exact absurd (hr53.det2 hr39) hp83) | (exact absurd (hr53.det2 hr39) (of_decide_eq_false hg83)) | (exact (bneE hg83 (hr53.det3 hr39)).elim) | (exact absurd (hr53.det3 hr39) hp83) | (exact absurd (hr53.det3 hr39) (of_decide_eq_false hg83)) | (exact (tfX hg83).elim) | (exact (decF hg83).elim) | (exfalso; omega)
                  · have hg83 := not_false hg84
                    refine W_skip ?_
                    refine thenE_n ?_
                    refine W_seq ?_
                    refine W_region ?_
                    refine WL_q rfl (ev_assign rfl) ?_
                    refine WL_nil ?_
                    refine thenE_n ?_
                    refine W_ret ?_
                    refine ret1 rfl rfl ?_
                    first | (exact ⟨rfl, hE⟩) | (exact (bneE hg83 (hr53.det1 hr39)).elim) | (exact absurd (hr53.det1 hr39) hp83) | (exact absurd (hr53.det1 hr39) (of_decide_eq_false hg83)) | (exact (bneE hg83 (hr53.det2 hr39)).elim) | (exact absurd (hr53.det2 hr39) hp83) | (exact absurd (hr53.det2 hr39) (of_decide_eq_false hg83)) | (exact (bneE hg83 (hr53.det3 hr39)).elim) | (exact absurd (hr53.det3 hr39) hp83) | (exact absurd (hr53.det3 hr39) (of_decide_eq_false hg83)) | (exact (tfX hg83).elim) | (exact (decF hg83).elim) | (exfalso; omega)

end Go.Proofs.Ytebjcbgencenbaa
