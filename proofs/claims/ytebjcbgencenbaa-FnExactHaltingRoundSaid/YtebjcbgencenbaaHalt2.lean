/- Contracts of HaltingRound, of the program and of the reference; the walk of FnExactHaltingRound. -/
import Derived.Test.YtebjcbgencenbaaHalt
namespace Go.Proofs.Ytebjcbgencenbaa
open Go Go.RowKit

/-- All nodes have an output. -/
def hltd (m : Mach) (S : List Int) : Bool := !(S.any fun s => decide (m.output.getD s.toNat 0 < 0))
theorem hltd_t {m : Mach} {S : List Int} (h : (S.any fun s => decide (m.output.getD s.toNat 0 < 0)) = false) : hltd m S = true := by unfold hltd; rw [h]; rfl
theorem hltd_f {m : Mach} {S : List Int} (h : (S.any fun s => decide (m.output.getD s.toNat 0 < 0)) = true) : hltd m S = false := by unfold hltd; rw [h]; rfl
theorem hltd_succ {m : Mach} {S : List Int} {j : Nat} (h : hltd m (S.take j) = true) (hj : j < S.length) (h2 : S[j].toNat < m.output.length) : decide (0 ≤ m.output[S[j].toNat]) = hltd m (S.take (j + 1)) := by
  unfold hltd at h ⊢
  rw [← List.take_append_getElem hj, List.any_append]
  have h3 : ((S.take j).any fun s => decide (m.output.getD s.toNat 0 < 0)) = false := by simpa using h
  rw [h3]
  simp only [List.any_cons, List.any_nil, Bool.or_false, Bool.false_or, getD_eq h2]
  by_cases h4 : 0 ≤ m.output[S[j].toNat]
  · have h5 : ¬ m.output[S[j].toNat] < 0 := by omega
    simp [h4, h5]
  · have h5 : m.output[S[j].toNat] < 0 := by omega
    simp [h4, h5]
theorem hltd_stay {m : Mach} {S : List Int} {j : Nat} (h : hltd m (S.take j) = false) (hj : j < S.length) : false = hltd m (S.take (j + 1)) := by
  unfold hltd at h ⊢
  rw [← List.take_append_getElem hj, List.any_append]
  have h3 : ((S.take j).any fun s => decide (m.output.getD s.toNat 0 < 0)) = true := by simpa using h
  rw [h3]; rfl
theorem hltd_full {m : Mach} {S : List Int} {j : Nat} {b : Bool} (h : hltd m (S.take j) = b) (hj : S.length ≤ j) : hltd m S = b := by rw [List.take_of_length_le hj] at h; exact h
/-- The round in which a run halts. -/
def HR (m : Mach) (A : Net) (n r : Int) (q : Bool) : Prop :=
  (∃ k : Nat, Fits m A ∧ inR n 0 2000 = true ∧ (k : Int) ≤ n ∧ hltd m (stN m A k) = true ∧ (∀ j, j < k → hltd m (stN m A j) = false) ∧ r = (k : Int) ∧ q = true) ∨
  ((∀ k : Nat, Fits m A → inR n 0 2000 = true → (k : Int) ≤ n → hltd m (stN m A k) = false) ∧ r = 0 ∧ q = false)
theorem HR.det {m : Mach} {A : Net} {n r r' : Int} {q q' : Bool} (h : HR m A n r q) (k : HR m A n r' q') : r = r' ∧ q = q' := by
  rcases h with ⟨i, h1, h2, h3, h4, h5, h6, h7⟩ | ⟨h1, h6, h7⟩ <;> rcases k with ⟨j, k1, k2, k3, k4, k5, k6, k7⟩ | ⟨k1, k6, k7⟩
  · have e : i = j := by
      rcases Nat.lt_trichotomy i j with h | h | h
      · have := k5 i h; rw [h4] at this; cases this
      · exact h
      · have := h5 j h; rw [k4] at this; cases this
    exact ⟨by rw [h6, k6, e], by rw [h7, k7]⟩
  · have := k1 i h1 h2 h3; rw [h4] at this; cases this
  · have := h1 j k1 k2 k3; rw [k4] at this; cases this
  · exact ⟨by rw [h6, k6], by rw [h7, k7]⟩
theorem HR.det1 {m : Mach} {A : Net} {n r r' : Int} {q q' : Bool} (h : HR m A n r q) (k : HR m A n r' q') : r = r' := (h.det k).1
theorem HR.det2 {m : Mach} {A : Net} {n r r' : Int} {q q' : Bool} (h : HR m A n r q) (k : HR m A n r' q') : q = q' := (h.det k).2
theorem HR.at {m : Mach} {A : Net} {n : Int} {i : Nat} (h1 : Fits m A) (h2 : inR n 0 2000 = true) (h3 : (i : Int) ≤ n) (h4 : hltd m (stN m A i) = true) (h5 : ∀ j, j < i → hltd m (stN m A j) = false) : HR m A n (i : Int) true := .inl ⟨i, h1, h2, h3, h4, h5, rfl, rfl⟩
theorem HR.last {m : Mach} {A : Net} {n : Int} {i : Nat} (h3 : n = (i : Int)) (h4 : hltd m (stN m A i) = false) (h5 : ∀ j, j < i → hltd m (stN m A j) = false) : HR m A n 0 false := .inr ⟨fun k _ _ hk => by
  rcases Nat.lt_or_ge k i with h | h
  · exact h5 k h
  · rw [show k = i by omega]; exact h4, rfl, rfl⟩
theorem HR.same {m : Mach} {A : Net} {n : Int} {i : Nat} (h3 : stepS m A (stN m A i) = stN m A i) (h4 : hltd m (stN m A i) = false) (h5 : ∀ j, j < i → hltd m (stN m A j) = false) : HR m A n 0 false := .inr ⟨fun k _ _ _ => by
  rcases Nat.lt_or_ge k i with h | h
  · exact h5 k h
  · rw [← stN_fix h3 h]; exact h4, rfl, rfl⟩
theorem HR.nofit {m : Mach} {A : Net} {n : Int} (h : ¬ Fits m A) : HR m A n 0 false := .inr ⟨fun _ h1 => absurd h1 h, rfl, rfl⟩
theorem HR.noin {m : Mach} {A : Net} {n : Int} (h : inR n 0 2000 = false) : HR m A n 0 false := .inr ⟨fun _ _ h1 => (by rw [h] at h1; cases h1), rfl, rfl⟩
theorem hl_succ {m : Mach} {A : Net} {i : Nat} (h5 : ∀ j, j < i → hltd m (stN m A j) = false) (h4 : hltd m (stN m A i) = false) : ∀ j, j < i + 1 → hltd m (stN m A j) = false := fun j hj => by
  rcases Nat.lt_or_ge j i with h | h
  · exact h5 j h
  · rw [show j = i by omega]; exact h4

set_option maxRecDepth 100000 in
theorem haltingStates_1 {lo hi : Nat} (h : MA) (m : Mach) (s : Int) (b : Nat) (T : TypeId) (w : World) (hB : Blk w b T [VI m.deg, VI m.states, VI m.msgs, .slice h.a1 m.start.length h.c1, .slice h.a2 m.send.length h.c2, .slice h.a3 m.clauses.length h.c3, .slice h.a4 m.output.length h.c4]) (ho : Ints lo hi w h.a4 h.c4 m.output) (hs : 0 ≤ s ∧ s.toNat < m.output.length) :
    Fn Try.prog 104 #[VI s, ptr b 0] w (fun v w' => v = VB (decide (m.output.getD s.toNat 0 < 0)) ∧ Ext w w') := by
  have hE := Ext.refl w
  refine Fn_of Try.func104 rfl rfl (by kernel_rfl) rfl ?_
  refine W_seq ?_
  refine W_region ?_
  refine WL_q rfl (ev_assign rfl) ?_
  refine WL_nil ?_
  refine thenE_n ?_
  refine W_seq ?_
  refine W_region ?_
  refine WL_q rfl (ev_fieldAddr fo36_6 rfl) ?_
  refine WL_q rfl (ev_load one24 rfl (hB.cell rfl)) ?_
  refine WL_q rfl (ev_move rfl) ?_
  refine WL_q rfl (ev_indexAddr Try.underlying24 sz3 rfl rfl (ho.isSome (by omega)) (by omega) (by omega)) ?_
  refine WL_q rfl (ev_load one3 rfl (ho.cell (i := s.toNat) (by omega))) ?_
  refine WL_q rfl (ev_lss rfl rfl) ?_
  refine WL_q rfl (ev_assign rfl) ?_
  refine WL_nil ?_
  refine thenE_n ?_
  refine W_ret ?_
  refine ret1 rfl rfl ?_
  exact ⟨by rw [getD_eq hs.2], hE⟩

set_option maxRecDepth 100000 in
theorem haltingStates_spec {lom him : Nat} (nm : MA) (m : Mach) {loA hiA : Nat} (nA : NA) (A : Net) (k : Int) (w : World) (hm : IsMach lom him w nm m) (hhim : him ≤ w.heap.size) (hnm : totM m ≤ 1048576) (hA : IsNet loA hiA w nA A) (hhiA : hiA ≤ w.heap.size) (hnA : totN A ≤ 1048576) :
    Fn Try.prog 79 #[machV nm m, netV nA A, VI k] w (fun r w' => ∃ x a n c q, r = .tuple #[VI x, .slice a n c, VB q] ∧ HR m A k x q ∧ Ext w w') := by
  have hmm : totL m.start + totL m.send + totC m.clauses + m.output.length ≤ 1048576 := hnm
  have hqA := totL_len A.ends
  have hmA : totL A.ends + A.ids.length + A.inputs.length ≤ 1048576 := hnA
  have hs0 := stS_len m A
  have hE := Ext.refl w
  refine Fn_of Try.func79 rfl rfl (by kernel_rfl) rfl ?_
  refine W_seq ?_
  refine W_region ?_
  refine WL_m rfl (ev_box rfl) ?_
  rintro _ w3 ⟨rfl, hN3⟩
  have hz3 := hN3.size
  replace hE := hE.trans hN3.ext
  replace hm := hm.ext hN3.ext
  replace hA := hA.ext hN3.ext
  have hB3 : Blk w3 _ _ [_, _, _, _, _, _, _] := hN3.blk
  refine WL_m rfl (ev_box rfl) ?_
  rintro _ w4 ⟨rfl, hN4⟩
  have hz4 := hN4.size
  replace hE := hE.trans hN4.ext
  replace hm := hm.ext hN4.ext
  replace hA := hA.ext hN4.ext
  replace hB3 := hB3.ext hN4.ext
  have hB4 : Blk w4 _ _ [_, _, _] := hN4.blk
  refine WL_q rfl (ev_assign rfl) ?_
  refine WL_q rfl (ev_assign rfl) ?_
  refine WL_q rfl (ev_assign rfl) ?_
  refine WL_nil ?_
  refine thenE_n ?_
  refine W_seq ?_
  refine W_seq ?_
  refine W_region ?_
  refine WL_q rfl (ev_loads st36 sz36 rfl (cellsB hB3) rfl) ?_
  refine WL_q rfl (ev_loads st40 sz40 rfl (cellsB hB4) rfl) ?_
  refine WL_m rfl (ev_call rfl (fits_spec _ m _ A _ hm (by omega) (by omega) hA (by omega) (by omega))) ?_
  rintro _ w13 ⟨b13, rfl, hb13, hE13⟩
  have hz13 := hE13.size
  replace hE := hE.trans hE13
  replace hm := hm.ext hE13
  replace hA := hA.ext hE13
  replace hB3 := hB3.ext hE13
  replace hB4 := hB4.ext hE13
  refine WL_q rfl (ev_not rfl) ?_
  refine WL_q rfl (ev_move rfl) ?_
  refine WL_splitv (t := 15) rfl (fun hg14 => ?_) (fun hg14 => ?_)
  · have hg13 := not_true hg14
    have hp13 := ttN hb13 hg13
    refine WL_no rfl rfl hg14 rfl ?_
    refine WL_no rfl rfl hg14 rfl ?_
    refine WL_no rfl rfl hg14 rfl ?_
    refine WL_q rfl (ev_pick_t rfl hg14 rfl) ?_
    refine WL_nil ?_
    refine thenE_n ?_
    refine W_cond_t rfl ?_
    refine W_seq ?_
    refine W_region ?_
    refine WL_q rfl (ev_assign rfl) ?_
    refine WL_q rfl (ev_assign rfl) ?_
    refine WL_q rfl (ev_assign rfl) ?_
    refine WL_nil ?_
    refine thenE_n ?_
    refine W_ret ?_
    refine thenE_r ?_
    refine ret3 rfl rfl rfl rfl ?_
    first | (exact ⟨_, _, _, _, _, rfl, .nofit hp13, hE⟩) | (exact ⟨_, _, _, _, _, rfl, .noin hg17, hE⟩) | (exact ⟨_, _, _, _, _, rfl, .last (by omega) hn9 hJ, hE⟩) | (exact ⟨_, _, _, _, _, rfl, .at hp13 hg17 hi' (hltd_t hg27) hJ, hE⟩)
  · have hg13 := not_false hg14
    have hp13 := hb13.1 hg13
    refine WL_qg rfl rfl hg14 rfl (ev_move rfl) ?_
    refine WL_mg rfl rfl hg14 rfl (ev_call rfl (within_spec _ _ _ _)) ?_
    rintro _ _ ⟨rfl, rfl⟩
    refine WL_qg rfl rfl hg14 rfl (ev_not rfl) ?_
    refine WL_q rfl (ev_pick_f rfl hg14 rfl) ?_
    refine WL_nil ?_
    refine thenE_n ?_
    refine W_cond rfl (fun hg18 => ?_) (fun hg18 => ?_)
    · have hg17 := not_true hg18
      have hp17 := inR_false.1 hg17
      refine W_seq ?_
      refine W_region ?_
      refine WL_q rfl (ev_assign rfl) ?_
      refine WL_q rfl (ev_assign rfl) ?_
      refine WL_q rfl (ev_assign rfl) ?_
      refine WL_nil ?_
      refine thenE_n ?_
      refine W_ret ?_
      refine thenE_r ?_
      refine ret3 rfl rfl rfl rfl ?_
      first | (exact ⟨_, _, _, _, _, rfl, .nofit hp13, hE⟩) | (exact ⟨_, _, _, _, _, rfl, .noin hg17, hE⟩) | (exact ⟨_, _, _, _, _, rfl, .last (by omega) hn9 hJ, hE⟩) | (exact ⟨_, _, _, _, _, rfl, .at hp13 hg17 hi' (hltd_t hg27) hJ, hE⟩)
    · have hg17 := not_false hg18
      have hp17 := inR_true.1 hg17
      refine W_skip ?_
      refine thenE_n ?_
      refine W_seq ?_
      refine W_region ?_
      refine WL_q rfl (ev_loads st36 sz36 rfl (cellsB hB3) rfl) ?_
      refine WL_q rfl (ev_loads st40 sz40 rfl (cellsB hB4) rfl) ?_
      have hin := inR_true.1 hg17
      have hnd0 := hp13.2.1.nodes
      have hf9 := hp13
      refine WL_m rfl (ev_call rfl (startStates_spec _ m _ A _ hm (by omega) (by omega) hA (by omega) (by omega) (by assumption))) ?_
      rintro _ w22 ⟨a22, c22, rfl, hO22, hE22⟩
      have hz22 := hE22.size
      replace hE := hE.trans hE22
      replace hm := hm.ext hE22
      replace hA := hA.ext hE22
      replace hB3 := hB3.ext hE22
      replace hB4 := hB4.ext hE22
      refine WL_q rfl (ev_assign rfl) ?_
      refine WL_nil ?_
      refine thenE_n ?_
      refine W_seq ?_
      refine W_region ?_
      refine WL_q rfl (ev_assign rfl) ?_
      refine WL_nil ?_
      refine thenE_n ?_
      refine W_block ?_
      refine W_loopC (G := Nat × Option Addr × Nat) [(2, _), (3, _), (4, _)] ((Subs.c rfl (Subs.c rfl (Subs.c rfl Subs.n)))) (fun ⟨i, a, c⟩ => [(9, .slice a (stN m A i).length c), (10, VI (i : Int))]) (fun ⟨i, a, c⟩ w' => Ext w22 w' ∧ (i : Int) ≤ k ∧ Own w.heap.size w' 3 1 a (stN m A i).length c ((stN m A i).map VI) ∧ ∀ j, j < i → hltd m (stN m A j) = false) (fun g => k.toNat + 1 - g.1) (0, _, _) ((Subs.c rfl (Subs.c (lkI rfl (by omega)) Subs.n))) (⟨Ext.refl _, ⟨by omega, hO22.mono (by omega), fun j h => by omega⟩⟩) ?_
      rintro ⟨i, a, c⟩ wL0 ⟨hRL0, hi', hO, hJ⟩
      have hzL0 := hRL0.size
      replace hE := hE.trans hRL0
      replace hm := hm.ext hRL0
      replace hA := hA.ext hRL0
      replace hB3 := hB3.ext hRL0
      replace hB4 := hB4.ext hRL0
      replace hO22 := hO22.ext hRL0
      refine W_seq ?_
      refine W_block ?_
      refine W_seq ?_
      refine W_seq ?_
      refine W_region ?_
      refine WL_q rfl (ev_move rfl) ?_
      refine WL_q rfl (ev_makeFunc rfl rfl) ?_
      have hso := stN_ok (by assumption : Fits m A) i
      have hsl := stN_len m A i
      have hnd := (by assumption : Fits m A).2.1.nodes
      refine WL_m rfl (ev_call rfl (ContainsFunc_int _ _ (stN m A i) _ _ (fun s => decide (m.output.getD s.toNat 0 < 0)) _ (own_i hO) (by omega) (fun u h w1 hw => haltingStates_1 nm m _ _ _ w1 (hB3.ext hw) (hm.output.ext hw) (by have := hso.rng h; have := hf9.1.states; have := hf9.1.outLen; omega)))) ?_
      rintro _ w27 ⟨rfl, hE27⟩
      have hz27 := hE27.size
      replace hE := hE.trans hE27
      replace hRL0 := hRL0.trans hE27
      replace hm := hm.ext hE27
      replace hA := hA.ext hE27
      replace hB3 := hB3.ext hE27
      replace hB4 := hB4.ext hE27
      replace hO22 := hO22.ext hE27
      replace hO := hO.ext hE27
      refine WL_q rfl (ev_not rfl) ?_
      refine WL_nil ?_
      refine thenE_n ?_
      refine W_cond rfl (fun hg28 => ?_) (fun hg28 => ?_)
      · have hg27 := not_true hg28
        refine W_seq ?_
        refine W_region ?_
        refine WL_q rfl (ev_move rfl) ?_
        refine WL_q rfl (ev_move rfl) ?_
        refine WL_q rfl (ev_assign rfl) ?_
        refine WL_q rfl (ev_assign rfl) ?_
        refine WL_q rfl (ev_assign rfl) ?_
        refine WL_nil ?_
        refine thenE_n ?_
        refine W_ret ?_
        refine thenE_r ?_
        refine blockE_r ?_
        refine thenE_r ?_
        refine thenE_r ?_
        refine blockE_r ?_
        refine ret3 rfl rfl rfl rfl ?_
        first | (exact ⟨_, _, _, _, _, rfl, .nofit hp13, hE⟩) | (exact ⟨_, _, _, _, _, rfl, .noin hg17, hE⟩) | (exact ⟨_, _, _, _, _, rfl, .last (by omega) hn9 hJ, hE⟩) | (exact ⟨_, _, _, _, _, rfl, .at hp13 hg17 hi' (hltd_t hg27) hJ, hE⟩)
      · have hg27 := not_false hg28
        refine W_skip ?_
        refine thenE_n ?_
        refine W_seq ?_
        refine W_seq ?_
        refine W_region ?_
        have hn9 := hltd_f hg27
        refine WL_q rfl (ev_move rfl) ?_
        refine WL_q rfl (ev_move rfl) ?_
        refine WL_q rfl (ev_eql rfl rfl) ?_
        refine WL_nil ?_
        refine thenE_n ?_
        refine W_cond rfl (fun hg33 => ?_) (fun hg33 => ?_)
        · have hp33 := of_decide_eq_true hg33
          refine W_seq ?_
          refine W_region ?_
          refine WL_q rfl (ev_assign rfl) ?_
          refine WL_q rfl (ev_assign rfl) ?_
          refine WL_q rfl (ev_assign rfl) ?_
          refine WL_nil ?_
          refine thenE_n ?_
          refine W_ret ?_
          refine thenE_r ?_
          refine blockE_r ?_
          refine thenE_r ?_
          refine thenE_r ?_
          refine blockE_r ?_
          refine ret3 rfl rfl rfl rfl ?_
          first | (exact ⟨_, _, _, _, _, rfl, .nofit hp13, hE⟩) | (exact ⟨_, _, _, _, _, rfl, .noin hg17, hE⟩) | (exact ⟨_, _, _, _, _, rfl, .last (by omega) hn9 hJ, hE⟩) | (exact ⟨_, _, _, _, _, rfl, .at hp13 hg17 hi' (hltd_t hg27) hJ, hE⟩)
        · have hp33 := of_decide_eq_false hg33
          refine W_skip ?_
          refine thenE_n ?_
          refine W_region ?_
          refine WL_q rfl (ev_loads st36 sz36 rfl (cellsB hB3) rfl) ?_
          refine WL_q rfl (ev_loads st40 sz40 rfl (cellsB hB4) rfl) ?_
          refine WL_q rfl (ev_move rfl) ?_
          refine WL_m rfl (ev_call rfl (stepStates_spec _ m _ A _ _ (stN m A i) _ hm (by omega) (by omega) hA (by omega) (by omega) (own_i hO) (by omega) (by omega) (by assumption) (by assumption))) ?_
          rintro _ w37 ⟨a37, c37, rfl, hO37, hE37⟩
          have hz37 := hE37.size
          replace hE := hE.trans hE37
          replace hRL0 := hRL0.trans hE37
          replace hm := hm.ext hE37
          replace hA := hA.ext hE37
          replace hB3 := hB3.ext hE37
          replace hB4 := hB4.ext hE37
          replace hO22 := hO22.ext hE37
          replace hO := hO.ext hE37
          refine WL_q rfl (ev_assign rfl) ?_
          refine WL_nil ?_
          refine blockE_n ?_
          refine thenE_n ?_
          refine W_region ?_
          refine WL_q rfl (ev_move rfl) ?_
          refine WL_q rfl (ev_add rfl rfl (by omega)) ?_
          refine WL_q rfl (ev_assign rfl) ?_
          refine WL_nil ?_
          refine thenE_n ?_
          exact ⟨(i + 1, a37, c37), (Subs.c rfl (Subs.c rfl (Subs.c rfl Subs.n))), (Subs.c (lkS rfl (by first | rfl | simp | (simp; omega) | omega)) (Subs.c (lkI rfl (by omega)) Subs.n)), ⟨hRL0, ⟨by omega, hO37.mono (by omega), hl_succ hJ hn9⟩⟩, by first | omega | (dsimp only; omega)⟩

set_option maxRecDepth 100000 in
theorem maHalt_spec {lom him : Nat} (nm : MA) (m : Mach) {loA hiA : Nat} (nA : NA) (A : Net) (k : Int) (w : World) (hm : IsMach lom him w nm m) (hhim : him ≤ w.heap.size) (hnm : totM m ≤ 1048576) (hA : IsNet loA hiA w nA A) (hhiA : hiA ≤ w.heap.size) (hnA : totN A ≤ 1048576) (hf : Fits m A) (hin0 : inR k 0 2000 = true) :
    Fn Try.prog 78 #[machV nm m, netV nA A, VI k] w (fun r w' => ∃ x a n c q, r = .tuple #[.slice a n c, VI x, VB q] ∧ HR m A k x q ∧ Ext w w') := by
  have hmm : totL m.start + totL m.send + totC m.clauses + m.output.length ≤ 1048576 := hnm
  have hqA := totL_len A.ends
  have hmA : totL A.ends + A.ids.length + A.inputs.length ≤ 1048576 := hnA
  have hs0 := stS_len m A
  have hin := inR_true.1 hin0
  have hnd := hf.2.1.nodes
  have hst := hf.1.states
  have hol := hf.1.outLen
  have hE := Ext.refl w
  refine Fn_of Try.func78 rfl rfl (by kernel_rfl) rfl ?_
  refine W_seq ?_
  refine W_region ?_
  refine WL_m rfl (ev_box rfl) ?_
  rintro _ w3 ⟨rfl, hN3⟩
  have hz3 := hN3.size
  replace hE := hE.trans hN3.ext
  replace hm := hm.ext hN3.ext
  replace hA := hA.ext hN3.ext
  have hB3 : Blk w3 _ _ [_, _, _, _, _, _, _] := hN3.blk
  refine WL_m rfl (ev_box rfl) ?_
  rintro _ w4 ⟨rfl, hN4⟩
  have hz4 := hN4.size
  replace hE := hE.trans hN4.ext
  replace hm := hm.ext hN4.ext
  replace hA := hA.ext hN4.ext
  replace hB3 := hB3.ext hN4.ext
  have hB4 : Blk w4 _ _ [_, _, _] := hN4.blk
  refine WL_q rfl (ev_assign rfl) ?_
  refine WL_q rfl (ev_assign rfl) ?_
  refine WL_q rfl (ev_assign rfl) ?_
  refine WL_nil ?_
  refine thenE_n ?_
  refine W_seq ?_
  refine W_region ?_
  refine WL_q rfl (ev_loads st36 sz36 rfl (cellsB hB3) rfl) ?_
  refine WL_q rfl (ev_loads st40 sz40 rfl (cellsB hB4) rfl) ?_
  refine WL_m rfl (ev_call rfl (maStart_spec _ m _ A _ hm (by omega) (by omega) hA (by omega) (by omega) (by assumption))) ?_
  rintro _ w17 ⟨a17, c17, rfl, hO17, hE17⟩
  have hz17 := hE17.size
  replace hE := hE.trans hE17
  replace hm := hm.ext hE17
  replace hA := hA.ext hE17
  replace hB3 := hB3.ext hE17
  replace hB4 := hB4.ext hE17
  refine WL_q rfl (ev_assign rfl) ?_
  refine WL_nil ?_
  refine thenE_n ?_
  refine W_seq ?_
  refine W_region ?_
  refine WL_q rfl (ev_assign rfl) ?_
  refine WL_nil ?_
  refine thenE_n ?_
  refine W_block ?_
  refine W_loopC (G := Nat × Option Addr × Nat) [(2, _), (3, _), (4, _)] ((Subs.c rfl (Subs.c rfl (Subs.c rfl Subs.n)))) (fun ⟨i, a, c⟩ => [(9, .slice a (stN m A i).length c), (10, VI (i : Int))]) (fun ⟨i, a, c⟩ w' => Ext w17 w' ∧ (i : Int) ≤ k ∧ Own w.heap.size w' 3 1 a (stN m A i).length c ((stN m A i).map VI) ∧ ∀ j, j < i → hltd m (stN m A j) = false) (fun g => k.toNat + 1 - g.1) (0, _, _) ((Subs.c rfl (Subs.c (lkI rfl (by omega)) Subs.n))) (⟨Ext.refl _, ⟨by omega, hO17.mono (by omega), fun j h => by omega⟩⟩) ?_
  rintro ⟨i, a, c⟩ wL0 ⟨hRL0, hi', hO, hJ⟩
  have hzL0 := hRL0.size
  replace hE := hE.trans hRL0
  replace hm := hm.ext hRL0
  replace hA := hA.ext hRL0
  replace hB3 := hB3.ext hRL0
  replace hB4 := hB4.ext hRL0
  replace hO17 := hO17.ext hRL0
  refine W_seq ?_
  refine W_block ?_
  refine W_seq ?_
  refine W_region ?_
  refine WL_q rfl (ev_assign rfl) ?_
  refine WL_nil ?_
  refine thenE_n ?_
  refine W_seq ?_
  refine W_seq ?_
  refine W_region ?_
  refine WL_q rfl (ev_move rfl) ?_
  refine WL_q rfl (ev_len Try.underlying24 rfl) ?_
  refine WL_q rfl (ev_move rfl) ?_
  refine WL_nil ?_
  refine thenE_n ?_
  refine W_block ?_
  have hso := stN_ok hf i
  have hsl := stN_len m A i
  refine W_loopC (G := Nat) [(2, _), (3, _), (4, _), (9, _), (10, _), (20, _), (21, _)] ((Subs.c rfl (Subs.c rfl (Subs.c rfl (Subs.c rfl (Subs.c rfl (Subs.c rfl (Subs.c rfl Subs.n)))))))) (fun j => [(11, VB (hltd m ((stN m A i).take j))), (22, VI (j : Int))]) (fun j w' => Ext wL0 w' ∧ j ≤ (stN m A i).length) (fun j => (stN m A i).length - j) 0 ((Subs.c rfl (Subs.c (lkI rfl (by omega)) Subs.n))) (⟨Ext.refl _, Nat.zero_le _⟩) ?_
  rintro j wL2 ⟨hRL2, hj'⟩
  have hzL2 := hRL2.size
  replace hE := hE.trans hRL2
  replace hRL0 := hRL0.trans hRL2
  replace hm := hm.ext hRL2
  replace hA := hA.ext hRL2
  replace hB3 := hB3.ext hRL2
  replace hB4 := hB4.ext hRL2
  replace hO17 := hO17.ext hRL2
  replace hO := hO.ext hRL2
  refine W_seq ?_
  refine W_region ?_
  refine WL_q rfl (ev_lss rfl rfl) ?_
  refine WL_nil ?_
  refine thenE_n ?_
  refine W_seq ?_
  refine W_cond rfl (fun hg23 => ?_) (fun hg23 => ?_)
  · have hp23 := of_decide_eq_true hg23
    refine W_skip ?_
    refine thenE_n ?_
    refine W_seq ?_
    refine W_block ?_
    refine W_seq ?_
    refine W_region ?_
    have hlt2 : j < (stN m A i).length := by omega
    have hrj := hso.rng hlt2
    refine WL_q rfl (ev_indexAddr Try.underlying24 sz3 rfl rfl ((own_i hO).isSome (by omega)) (by omega) (by omega)) ?_
    refine WL_q rfl (ev_load one3 rfl ((own_i hO).cell (i := j) (by omega))) ?_
    refine WL_q rfl (ev_assign rfl) ?_
    refine WL_nil ?_
    refine thenE_n ?_
    refine W_region ?_
    refine WL_q rfl (ev_move rfl) ?_
    refine WL_q rfl (ev_move rfl) ?_
    refine WL_splitv (t := 27) rfl (fun hg27 => ?_) (fun hg27 => ?_)
    · refine WL_qg rfl rfl hg27 rfl (ev_fieldAddr fo36_6 rfl) ?_
      refine WL_qg rfl rfl hg27 rfl (ev_load one24 rfl (hB3.cell rfl)) ?_
      refine WL_qg rfl rfl hg27 rfl (ev_move rfl) ?_
      refine WL_qg rfl rfl hg27 rfl (ev_indexAddr Try.underlying24 sz3 rfl rfl (hm.output.isSome (by omega)) (by omega) (by omega)) ?_
      refine WL_qg rfl rfl hg27 rfl (ev_load one3 rfl (hm.output.cell (i := ((stN m A i)[j]).toNat) (by omega))) ?_
      refine WL_qg rfl rfl hg27 rfl (ev_geq rfl rfl) ?_
      refine WL_q rfl (ev_pick_t rfl hg27 rfl) ?_
      refine WL_q rfl (ev_assign rfl) ?_
      refine WL_nil ?_
      refine blockE_n ?_
      refine thenE_n ?_
      refine W_region ?_
      refine WL_q rfl (ev_add rfl rfl (by omega)) ?_
      refine WL_q rfl (ev_move rfl) ?_
      refine WL_nil ?_
      refine thenE_n ?_
      exact ⟨j + 1, (Subs.c rfl (Subs.c rfl (Subs.c rfl (Subs.c rfl (Subs.c rfl (Subs.c rfl (Subs.c rfl Subs.n))))))), (Subs.c (lkB rfl (hltd_succ hg27 hlt2 (by omega))) (Subs.c (lkI rfl (by omega)) Subs.n)), ⟨hRL2, by omega⟩, by first | omega | (dsimp only; omega)⟩
    · refine WL_no rfl rfl hg27 rfl ?_
      refine WL_no rfl rfl hg27 rfl ?_
      refine WL_no rfl rfl hg27 rfl ?_
      refine WL_no rfl rfl hg27 rfl ?_
      refine WL_no rfl rfl hg27 rfl ?_
      refine WL_no rfl rfl hg27 rfl ?_
      refine WL_q rfl (ev_pick_f rfl hg27 rfl) ?_
      refine WL_q rfl (ev_assign rfl) ?_
      refine WL_nil ?_
      refine blockE_n ?_
      refine thenE_n ?_
      refine W_region ?_
      refine WL_q rfl (ev_add rfl rfl (by omega)) ?_
      refine WL_q rfl (ev_move rfl) ?_
      refine WL_nil ?_
      refine thenE_n ?_
      exact ⟨j + 1, (Subs.c rfl (Subs.c rfl (Subs.c rfl (Subs.c rfl (Subs.c rfl (Subs.c rfl (Subs.c rfl Subs.n))))))), (Subs.c (lkB rfl (hltd_stay hg27 hlt2)) (Subs.c (lkI rfl (by omega)) Subs.n)), ⟨hRL2, by omega⟩, by first | omega | (dsimp only; omega)⟩
  · have hp23 := of_decide_eq_false hg23
    refine W_exit ?_
    refine thenE_x ?_
    refine thenE_x ?_
    refine blockE_hit ?_
    refine thenE_n ?_
    refine W_seq ?_
    refine W_seq ?_
    refine W_region ?_
    refine WL_q rfl (ev_move rfl) ?_
    refine WL_nil ?_
    refine thenE_n ?_
    refine W_cond rfl (fun hgc36 => ?_) (fun hgc36 => ?_)
    · refine W_seq ?_
      refine W_region ?_
      refine WL_q rfl (ev_move rfl) ?_
      refine WL_q rfl (ev_move rfl) ?_
      refine WL_q rfl (ev_assign rfl) ?_
      refine WL_q rfl (ev_assign rfl) ?_
      refine WL_q rfl (ev_assign rfl) ?_
      refine WL_nil ?_
      refine thenE_n ?_
      refine W_ret ?_
      refine thenE_r ?_
      refine blockE_r ?_
      refine thenE_r ?_
      refine thenE_r ?_
      refine blockE_r ?_
      refine ret3 rfl rfl rfl rfl ?_
      first | (exact ⟨_, _, _, _, _, rfl, .last (by omega) hn9 hJ, hE⟩) | (exact ⟨_, _, _, _, _, rfl, .same hp49 hn9 hJ, hE⟩) | (exact ⟨_, _, _, _, _, rfl, .at hf hin0 hi' (hltd_full hgc36 (by omega)) hJ, hE⟩)
    · refine W_skip ?_
      refine thenE_n ?_
      refine W_seq ?_
      refine W_region ?_
      refine WL_q rfl (ev_loads st36 sz36 rfl (cellsB hB3) rfl) ?_
      refine WL_q rfl (ev_loads st40 sz40 rfl (cellsB hB4) rfl) ?_
      refine WL_q rfl (ev_move rfl) ?_
      have hn9 : hltd m (stN m A i) = false := hltd_full hgc36 (by omega)
      have hs9 := stepS_len m A (stN m A i)
      refine WL_m rfl (ev_call rfl (maStep_spec _ m _ A _ _ (stN m A i) _ hm (by omega) (by omega) hA (by omega) (by omega) (own_i hO) (by omega) (by omega) (by assumption) (by assumption))) ?_
      rintro _ w42 ⟨a42, c42, rfl, hO42, hE42⟩
      have hz42 := hE42.size
      replace hE := hE.trans hE42
      replace hRL0 := hRL0.trans hE42
      replace hm := hm.ext hE42
      replace hA := hA.ext hE42
      replace hB3 := hB3.ext hE42
      replace hB4 := hB4.ext hE42
      replace hO17 := hO17.ext hE42
      replace hO := hO.ext hE42
      refine WL_q rfl (ev_assign rfl) ?_
      refine WL_nil ?_
      refine thenE_n ?_
      refine W_seq ?_
      refine W_seq ?_
      refine W_region ?_
      refine WL_q rfl (ev_move rfl) ?_
      refine WL_q rfl (ev_move rfl) ?_
      refine WL_q rfl (ev_eql rfl rfl) ?_
      refine WL_q rfl (ev_move rfl) ?_
      refine WL_splitv (t := 46) rfl (fun hg45 => ?_) (fun hg45 => ?_)
      · have hp45 := of_decide_eq_true hg45
        refine WL_no rfl rfl hg45 rfl ?_
        refine WL_no rfl rfl hg45 rfl ?_
        refine WL_no rfl rfl hg45 rfl ?_
        refine WL_q rfl (ev_pick_t rfl hg45 rfl) ?_
        refine WL_nil ?_
        refine thenE_n ?_
        refine W_cond_t rfl ?_
        refine W_seq ?_
        refine W_region ?_
        refine WL_q rfl (ev_assign rfl) ?_
        refine WL_q rfl (ev_assign rfl) ?_
        refine WL_q rfl (ev_assign rfl) ?_
        refine WL_nil ?_
        refine thenE_n ?_
        refine W_ret ?_
        refine thenE_r ?_
        refine blockE_r ?_
        refine thenE_r ?_
        refine thenE_r ?_
        refine blockE_r ?_
        refine ret3 rfl rfl rfl rfl ?_
        first | (exact ⟨_, _, _, _, _, rfl, .last (by omega) hn9 hJ, hE⟩) | (exact ⟨_, _, _, _, _, rfl, .same hp49 hn9 hJ, hE⟩) | (exact ⟨_, _, _, _, _, rfl, .at hf hin0 hi' (hltd_full hgc36 (by omega)) hJ, hE⟩)
      · have hp45 := of_decide_eq_false hg45
        refine WL_qg rfl rfl hg45 rfl (ev_move rfl) ?_
        refine WL_qg rfl rfl hg45 rfl (ev_move rfl) ?_
        refine WL_mg rfl rfl hg45 rfl (ev_call rfl (l1Same_spec _ _ _ _ (stepS m A (stN m A i)) (stN m A i) _ (own_i hO42) (own_i hO) (by omega))) ?_
        rintro _ w49 ⟨b49, rfl, hb49, hE49⟩
        have hz49 := hE49.size
        replace hE := hE.trans hE49
        replace hRL0 := hRL0.trans hE49
        replace hm := hm.ext hE49
        replace hA := hA.ext hE49
        replace hB3 := hB3.ext hE49
        replace hB4 := hB4.ext hE49
        replace hO17 := hO17.ext hE49
        replace hO := hO.ext hE49
        replace hO42 := hO42.ext hE49
        refine WL_q rfl (ev_pick_f rfl hg45 rfl) ?_
        refine WL_nil ?_
        refine thenE_n ?_
        refine W_cond rfl (fun hg49 => ?_) (fun hg49 => ?_)
        · have hp49 := hb49.1 hg49
          refine W_seq ?_
          refine W_region ?_
          refine WL_q rfl (ev_assign rfl) ?_
          refine WL_q rfl (ev_assign rfl) ?_
          refine WL_q rfl (ev_assign rfl) ?_
          refine WL_nil ?_
          refine thenE_n ?_
          refine W_ret ?_
          refine thenE_r ?_
          refine blockE_r ?_
          refine thenE_r ?_
          refine thenE_r ?_
          refine blockE_r ?_
          refine ret3 rfl rfl rfl rfl ?_
          first | (exact ⟨_, _, _, _, _, rfl, .last (by omega) hn9 hJ, hE⟩) | (exact ⟨_, _, _, _, _, rfl, .same hp49 hn9 hJ, hE⟩) | (exact ⟨_, _, _, _, _, rfl, .at hf hin0 hi' (hltd_full hgc36 (by omega)) hJ, hE⟩)
        · have hp49 := ttN hb49 hg49
          refine W_skip ?_
          refine thenE_n ?_
          refine W_region ?_
          refine WL_q rfl (ev_move rfl) ?_
          refine WL_q rfl (ev_assign rfl) ?_
          refine WL_nil ?_
          refine blockE_n ?_
          refine thenE_n ?_
          refine W_region ?_
          refine WL_q rfl (ev_move rfl) ?_
          refine WL_q rfl (ev_add rfl rfl (by omega)) ?_
          refine WL_q rfl (ev_assign rfl) ?_
          refine WL_nil ?_
          refine thenE_n ?_
          exact ⟨(i + 1, a42, c42), (Subs.c rfl (Subs.c rfl (Subs.c rfl Subs.n))), (Subs.c (lkS rfl (by first | rfl | simp | (simp; omega) | omega)) (Subs.c (lkI rfl (by omega)) Subs.n)), ⟨hRL0, ⟨by omega, hO42.mono (by omega), hl_succ hJ hn9⟩⟩, by first | omega | (dsimp only; omega)⟩

set_option maxRecDepth 100000 in
theorem HaltingRound_spec {lom him : Nat} (nm : MA) (m : Mach) {loA hiA : Nat} (nA : NA) (A : Net) (k : Int) (w : World) (hm : IsMach lom him w nm m) (hhim : him ≤ w.heap.size) (hnm : totM m ≤ 1048576) (hA : IsNet loA hiA w nA A) (hhiA : hiA ≤ w.heap.size) (hnA : totN A ≤ 1048576) :
    Fn Try.prog 40 #[machV nm m, netV nA A, VI k] w (fun r w' => ∃ x q, r = .tuple #[VI x, VB q] ∧ HR m A k x q ∧ Ext w w') := by
  have hmm : totL m.start + totL m.send + totC m.clauses + m.output.length ≤ 1048576 := hnm
  have hqA := totL_len A.ends
  have hmA : totL A.ends + A.ids.length + A.inputs.length ≤ 1048576 := hnA
  have hE := Ext.refl w
  refine Fn_of Try.func40 rfl rfl (by kernel_rfl) rfl ?_
  refine W_seq ?_
  refine W_region ?_
  refine WL_m rfl (ev_box rfl) ?_
  rintro _ w3 ⟨rfl, hN3⟩
  have hz3 := hN3.size
  replace hE := hE.trans hN3.ext
  replace hm := hm.ext hN3.ext
  replace hA := hA.ext hN3.ext
  have hB3 : Blk w3 _ _ [_, _, _, _, _, _, _] := hN3.blk
  refine WL_m rfl (ev_box rfl) ?_
  rintro _ w4 ⟨rfl, hN4⟩
  have hz4 := hN4.size
  replace hE := hE.trans hN4.ext
  replace hm := hm.ext hN4.ext
  replace hA := hA.ext hN4.ext
  replace hB3 := hB3.ext hN4.ext
  have hB4 : Blk w4 _ _ [_, _, _] := hN4.blk
  refine WL_q rfl (ev_assign rfl) ?_
  refine WL_q rfl (ev_assign rfl) ?_
  refine WL_nil ?_
  refine thenE_n ?_
  refine W_seq ?_
  refine W_region ?_
  refine WL_q rfl (ev_loads st36 sz36 rfl (cellsB hB3) rfl) ?_
  refine WL_q rfl (ev_loads st40 sz40 rfl (cellsB hB4) rfl) ?_
  refine WL_q rfl (ev_move rfl) ?_
  refine WL_m rfl (ev_call rfl (haltingStates_spec _ m _ A _ _ hm (by omega) (by omega) hA (by omega) (by omega))) ?_
  rintro _ w15 ⟨x15, a15, n15, c15, q15, rfl, hr15, hE15⟩
  have hz15 := hE15.size
  replace hE := hE.trans hE15
  replace hm := hm.ext hE15
  replace hA := hA.ext hE15
  replace hB3 := hB3.ext hE15
  replace hB4 := hB4.ext hE15
  refine WL_q rfl (ev_move rfl) ?_
  refine WL_q rfl (ev_extract rfl rfl) ?_
  refine WL_q rfl (ev_extract rfl rfl) ?_
  refine WL_q rfl (ev_extract rfl rfl) ?_
  refine WL_q rfl (ev_assign rfl) ?_
  refine WL_q rfl (ev_assign rfl) ?_
  refine WL_q rfl (ev_assign rfl) ?_
  refine WL_nil ?_
  refine thenE_n ?_
  refine W_seq ?_
  refine W_region ?_
  refine WL_q rfl (ev_move rfl) ?_
  refine WL_q rfl (ev_move rfl) ?_
  refine WL_q rfl (ev_assign rfl) ?_
  refine WL_q rfl (ev_assign rfl) ?_
  refine WL_nil ?_
  refine thenE_n ?_
  refine W_ret ?_
  refine ret2 rfl rfl rfl ?_
  exact ⟨_, _, rfl, hr15, hE⟩

set_option maxRecDepth 100000 in
theorem sHaltingRound_spec {lom him : Nat} (nm : MA) (m : Mach) {loA hiA : Nat} (nA : NA) (A : Net) (k : Int) (w : World) (hm : IsMach lom him w nm m) (hhim : him ≤ w.heap.size) (hnm : totM m ≤ 1048576) (hA : IsNet loA hiA w nA A) (hhiA : hiA ≤ w.heap.size) (hnA : totN A ≤ 1048576) :
    Fn Try.prog 39 #[machV nm m, netV nA A, VI k] w (fun r w' => ∃ x q, r = .tuple #[VI x, VB q] ∧ HR m A k x q ∧ Ext w w') := by
  have hmm : totL m.start + totL m.send + totC m.clauses + m.output.length ≤ 1048576 := hnm
  have hqA := totL_len A.ends
  have hmA : totL A.ends + A.ids.length + A.inputs.length ≤ 1048576 := hnA
  have hE := Ext.refl w
  refine Fn_of Try.func39 rfl rfl (by kernel_rfl) rfl ?_
  refine W_seq ?_
  refine W_region ?_
  refine WL_m rfl (ev_box rfl) ?_
  rintro _ w3 ⟨rfl, hN3⟩
  have hz3 := hN3.size
  replace hE := hE.trans hN3.ext
  replace hm := hm.ext hN3.ext
  replace hA := hA.ext hN3.ext
  have hB3 : Blk w3 _ _ [_, _, _, _, _, _, _] := hN3.blk
  refine WL_m rfl (ev_box rfl) ?_
  rintro _ w4 ⟨rfl, hN4⟩
  have hz4 := hN4.size
  replace hE := hE.trans hN4.ext
  replace hm := hm.ext hN4.ext
  replace hA := hA.ext hN4.ext
  replace hB3 := hB3.ext hN4.ext
  have hB4 : Blk w4 _ _ [_, _, _] := hN4.blk
  refine WL_q rfl (ev_assign rfl) ?_
  refine WL_q rfl (ev_assign rfl) ?_
  refine WL_nil ?_
  refine thenE_n ?_
  refine W_seq ?_
  refine W_seq ?_
  refine W_region ?_
  refine WL_q rfl (ev_loads st36 sz36 rfl (cellsB hB3) rfl) ?_
  refine WL_q rfl (ev_loads st40 sz40 rfl (cellsB hB4) rfl) ?_
  refine WL_m rfl (ev_call rfl (maAsked_spec _ m _ A _ hm (by omega) (by omega) hA (by omega) (by omega))) ?_
  rintro _ w13 ⟨b13, rfl, hb13, hE13⟩
  have hz13 := hE13.size
  replace hE := hE.trans hE13
  replace hm := hm.ext hE13
  replace hA := hA.ext hE13
  replace hB3 := hB3.ext hE13
  replace hB4 := hB4.ext hE13
  refine WL_q rfl (ev_not rfl) ?_
  refine WL_q rfl (ev_move rfl) ?_
  refine WL_splitv (t := 15) rfl (fun hg14 => ?_) (fun hg14 => ?_)
  · have hg13 := not_true hg14
    have hp13 := ttN hb13 hg13
    refine WL_no rfl rfl hg14 rfl ?_
    refine WL_no rfl rfl hg14 rfl ?_
    refine WL_no rfl rfl hg14 rfl ?_
    refine WL_q rfl (ev_pick_t rfl hg14 rfl) ?_
    refine WL_nil ?_
    refine thenE_n ?_
    refine W_cond_t rfl ?_
    refine W_seq ?_
    refine W_region ?_
    refine WL_q rfl (ev_assign rfl) ?_
    refine WL_q rfl (ev_assign rfl) ?_
    refine WL_nil ?_
    refine thenE_n ?_
    refine W_ret ?_
    refine thenE_r ?_
    refine ret2 rfl rfl rfl ?_
    first | (exact ⟨_, _, rfl, .nofit hp13, hE⟩) | (exact ⟨_, _, rfl, .noin hg17, hE⟩) | (exact ⟨_, _, rfl, hr24, hE⟩)
  · have hg13 := not_false hg14
    have hp13 := hb13.1 hg13
    refine WL_qg rfl rfl hg14 rfl (ev_move rfl) ?_
    refine WL_mg rfl rfl hg14 rfl (ev_call rfl (maLong_spec _ _)) ?_
    rintro _ w17 ⟨rfl, hE17⟩
    have hz17 := hE17.size
    replace hE := hE.trans hE17
    replace hm := hm.ext hE17
    replace hA := hA.ext hE17
    replace hB3 := hB3.ext hE17
    replace hB4 := hB4.ext hE17
    refine WL_qg rfl rfl hg14 rfl (ev_not rfl) ?_
    refine WL_q rfl (ev_pick_f rfl hg14 rfl) ?_
    refine WL_nil ?_
    refine thenE_n ?_
    refine W_cond rfl (fun hg18 => ?_) (fun hg18 => ?_)
    · have hg17 := not_true hg18
      refine W_seq ?_
      refine W_region ?_
      refine WL_q rfl (ev_assign rfl) ?_
      refine WL_q rfl (ev_assign rfl) ?_
      refine WL_nil ?_
      refine thenE_n ?_
      refine W_ret ?_
      refine thenE_r ?_
      refine ret2 rfl rfl rfl ?_
      first | (exact ⟨_, _, rfl, .nofit hp13, hE⟩) | (exact ⟨_, _, rfl, .noin hg17, hE⟩) | (exact ⟨_, _, rfl, hr24, hE⟩)
    · have hg17 := not_false hg18
      refine W_skip ?_
      refine thenE_n ?_
      refine W_seq ?_
      refine W_region ?_
      refine WL_q rfl (ev_loads st36 sz36 rfl (cellsB hB3) rfl) ?_
      refine WL_q rfl (ev_loads st40 sz40 rfl (cellsB hB4) rfl) ?_
      refine WL_q rfl (ev_move rfl) ?_
      refine WL_m rfl (ev_call rfl (maHalt_spec _ m _ A _ _ hm (by omega) (by omega) hA (by omega) (by omega) (by assumption) (by assumption))) ?_
      rintro _ w24 ⟨x24, a24, n24, c24, q24, rfl, hr24, hE24⟩
      have hz24 := hE24.size
      replace hE := hE.trans hE24
      replace hm := hm.ext hE24
      replace hA := hA.ext hE24
      replace hB3 := hB3.ext hE24
      replace hB4 := hB4.ext hE24
      refine WL_q rfl (ev_move rfl) ?_
      refine WL_q rfl (ev_extract rfl rfl) ?_
      refine WL_q rfl (ev_extract rfl rfl) ?_
      refine WL_q rfl (ev_extract rfl rfl) ?_
      refine WL_q rfl (ev_assign rfl) ?_
      refine WL_q rfl (ev_assign rfl) ?_
      refine WL_q rfl (ev_assign rfl) ?_
      refine WL_nil ?_
      refine thenE_n ?_
      refine W_seq ?_
      refine W_region ?_
      refine WL_q rfl (ev_move rfl) ?_
      refine WL_q rfl (ev_move rfl) ?_
      refine WL_q rfl (ev_assign rfl) ?_
      refine WL_q rfl (ev_assign rfl) ?_
      refine WL_nil ?_
      refine thenE_n ?_
      refine W_ret ?_
      refine ret2 rfl rfl rfl ?_
      first | (exact ⟨_, _, rfl, .nofit hp13, hE⟩) | (exact ⟨_, _, rfl, .noin hg17, hE⟩) | (exact ⟨_, _, rfl, hr24, hE⟩)

set_option maxRecDepth 100000 in
theorem law_HaltingRound (nm : MA) (m : Mach) (nA : NA) (A : Net) (k : Int) (w : World) (hm : IsMach 0 w.heap.size w nm m) (hsm : SmM m) (hA : IsNet 0 w.heap.size w nA A) (hsA : SmN A) (hik : I64 k) :
    Fn Try.prog 9 #[machV nm m, netV nA A, VI k] w (fun v w' => v = VB true ∧ Ext w w') := by
  have hE := Ext.refl w
  refine Fn_of Try.func9 rfl rfl (by kernel_rfl) rfl ?_
  refine W_seq ?_
  refine W_region ?_
  refine WL_m rfl (ev_box rfl) ?_
  rintro _ w3 ⟨rfl, hN3⟩
  have hz3 := hN3.size
  replace hE := hE.trans hN3.ext
  replace hm := hm.ext hN3.ext
  replace hA := hA.ext hN3.ext
  have hB3 : Blk w3 _ _ [_, _, _, _, _, _, _] := hN3.blk
  refine WL_m rfl (ev_box rfl) ?_
  rintro _ w4 ⟨rfl, hN4⟩
  have hz4 := hN4.size
  replace hE := hE.trans hN4.ext
  replace hm := hm.ext hN4.ext
  replace hA := hA.ext hN4.ext
  replace hB3 := hB3.ext hN4.ext
  have hB4 : Blk w4 _ _ [_, _, _] := hN4.blk
  refine WL_q rfl (ev_assign rfl) ?_
  refine WL_nil ?_
  refine thenE_n ?_
  refine W_seq ?_
  refine W_region ?_
  refine WL_q rfl (ev_assign rfl) ?_
  refine WL_nil ?_
  refine thenE_n ?_
  refine W_seq ?_
  refine W_region ?_
  refine WL_q rfl (ev_loads st26 sz26 rfl (cellsB hB3) rfl) ?_
  refine WL_q rfl (ev_move rfl) ?_
  refine WL_m rfl (ev_call rfl (szMachine_spec _ m _ _ hm (by omega) hsm)) ?_
  rintro _ w16 ⟨r16, rfl, hE16, hr16⟩
  have hz16 := hE16.size
  replace hE := hE.trans hE16
  replace hm := hm.ext hE16
  replace hA := hA.ext hE16
  replace hB3 := hB3.ext hE16
  replace hB4 := hB4.ext hE16
  refine WL_q rfl (ev_assign rfl) ?_
  refine WL_nil ?_
  refine thenE_n ?_
  refine W_seq ?_
  refine W_seq ?_
  refine W_region ?_
  refine WL_q rfl (ev_move rfl) ?_
  refine WL_q rfl (ev_lss rfl rfl) ?_
  refine WL_nil ?_
  refine thenE_n ?_
  refine W_cond rfl (fun hg18 => ?_) (fun hg18 => ?_)
  · have hp18 := of_decide_eq_true hg18
    refine W_seq ?_
    refine W_region ?_
    refine WL_q rfl (ev_assign rfl) ?_
    refine WL_nil ?_
    refine thenE_n ?_
    refine W_ret ?_
    refine thenE_r ?_
    refine ret1 rfl rfl ?_
    first | (exact ⟨rfl, hE⟩) | (exact (tfX hg18).elim) | (exact (decF hg18).elim) | (exfalso; omega)
  · have hp18 := of_decide_eq_false hg18
    refine W_skip ?_
    refine thenE_n ?_
    refine W_seq ?_
    refine W_region ?_
    refine WL_q rfl (ev_loads st29 sz29 rfl (cellsB hB4) rfl) ?_
    refine WL_q rfl (ev_move rfl) ?_
    refine WL_m rfl (ev_call rfl (szNetwork_spec _ A _ _ hA (by omega) hsA)) ?_
    rintro _ w21 ⟨r21, rfl, hE21, hr21⟩
    have hz21 := hE21.size
    replace hE := hE.trans hE21
    replace hm := hm.ext hE21
    replace hA := hA.ext hE21
    replace hB3 := hB3.ext hE21
    replace hB4 := hB4.ext hE21
    refine WL_q rfl (ev_assign rfl) ?_
    refine WL_nil ?_
    refine thenE_n ?_
    refine W_seq ?_
    refine W_seq ?_
    refine W_region ?_
    refine WL_q rfl (ev_move rfl) ?_
    refine WL_q rfl (ev_lss rfl rfl) ?_
    refine WL_nil ?_
    refine thenE_n ?_
    refine W_cond rfl (fun hg23 => ?_) (fun hg23 => ?_)
    · have hp23 := of_decide_eq_true hg23
      refine W_seq ?_
      refine W_region ?_
      refine WL_q rfl (ev_assign rfl) ?_
      refine WL_nil ?_
      refine thenE_n ?_
      refine W_ret ?_
      refine thenE_r ?_
      refine ret1 rfl rfl ?_
      first | (exact ⟨rfl, hE⟩) | (exact (tfX hg23).elim) | (exact (decF hg23).elim) | (exfalso; omega)
    · have hp23 := of_decide_eq_false hg23
      refine W_skip ?_
      refine thenE_n ?_
      refine W_seq ?_
      refine W_drawE [(0, true), (2, true), (4, true), (1, false), (3, false), (5, false), (6, true), (7, true), (8, true), (9, true), (10, true)] mixed (by kernel_rfl) rfl (by kernel_rfl) ?_
      intro wd8 hEd8 hzd8
      replace hE := hE.trans hEd8
      replace hm := hm.ext hEd8
      replace hA := hA.ext hEd8
      replace hB3 := hB3.ext hEd8
      replace hB4 := hB4.ext hEd8
      have hDd8 := Ext.refl wd8
      refine PW_q rfl rfl (fun wq hq => ev_loads st26 sz26 rfl (cellsB (hq.blk hB3)) rfl) ?_
      refine PW_q rfl rfl (fun wq hq => ev_loads st29 sz29 rfl (cellsB (hq.blk hB4)) rfl) ?_
      refine PW_q rfl rfl (fun wq hq => ev_move rfl) ?_
      refine PW_m rfl rfl (ev_call rfl (toMachine_spec _ m _ hm (by omega) (by omega))) ?_
      rintro _ w26 ⟨h26, rfl, hF26, hE26⟩
      have hz26 := hE26.size
      replace hE := hE.trans hE26
      replace hDd8 := hDd8.trans hE26
      have hM26 := hF26.is
      refine ⟨hDd8, ?_⟩
      have hm_3 := hm.ext hDd8
      have hA_3 := hA.ext hDd8
      have hB3_3 := hB3.ext hDd8
      have hB4_3 := hB4.ext hDd8
      refine PW_m rfl rfl (ev_call rfl (toNetwork_spec _ A _ hA_3 (by omega) (by omega))) ?_
      rintro _ w28 ⟨h28, rfl, hF28, hE28⟩
      have hz28 := hE28.size
      replace hE := hE.trans hE28
      replace hDd8 := hDd8.trans hE28
      replace hF26 := hF26.ext hE28
      replace hM26 := hM26.ext hE28
      have hN28 := hF28.is
      refine ⟨hDd8, ?_⟩
      have hm_5 := hm.ext hDd8
      have hA_5 := hA.ext hDd8
      have hB3_5 := hB3.ext hDd8
      have hB4_5 := hB4.ext hDd8
      refine PW_m rfl rfl (ev_call rfl (sHaltingRound_spec _ m _ A _ _ hM26 (by omega) (by omega) hN28 (by omega) (by omega))) ?_
      rintro _ w30 ⟨x30, q30, rfl, hr30, hE30⟩
      have hz30 := hE30.size
      replace hE := hE.trans hE30
      replace hDd8 := hDd8.trans hE30
      replace hF26 := hF26.ext hE30
      replace hM26 := hM26.ext hE30
      replace hF28 := hF28.ext hE30
      replace hN28 := hN28.ext hE30
      refine ⟨hDd8, ?_⟩
      refine PW_q rfl rfl (fun wq hq => ev_move rfl) ?_
      refine PW_q rfl rfl (fun wq hq => ev_extract rfl rfl) ?_
      refine PW_q rfl rfl (fun wq hq => ev_extract rfl rfl) ?_
      refine PW_q rfl rfl (fun wq hq => ev_assign rfl) ?_
      refine PW_q rfl rfl (fun wq hq => ev_assign rfl) ?_
      replace hm := hm.ext hDd8
      replace hA := hA.ext hDd8
      replace hB3 := hB3.ext hDd8
      replace hB4 := hB4.ext hDd8
      refine PW_nil ?_
      refine thenE_n ?_
      refine W_seq ?_
      refine W_region ?_
      refine WL_q rfl (ev_loads st26 sz26 rfl (cellsB hB3) rfl) ?_
      refine WL_m rfl (ev_call rfl (toMachine_spec _ m _ hm (by omega) (by omega))) ?_
      rintro _ w34 ⟨h34, rfl, hF34, hE34⟩
      have hz34 := hE34.size
      replace hE := hE.trans hE34
      replace hm := hm.ext hE34
      replace hA := hA.ext hE34
      replace hB3 := hB3.ext hE34
      replace hB4 := hB4.ext hE34
      replace hF26 := hF26.ext hE34
      replace hM26 := hM26.ext hE34
      replace hF28 := hF28.ext hE34
      replace hN28 := hN28.ext hE34
      have hM34 := hF34.is
      refine WL_m rfl (ev_alloc zr36) ?_
      rintro _ w10 ⟨rfl, hN10⟩
      have hz10 := hN10.size
      replace hE := hE.trans hN10.ext
      replace hm := hm.ext hN10.ext
      replace hA := hA.ext hN10.ext
      replace hB3 := hB3.ext hN10.ext
      replace hB4 := hB4.ext hN10.ext
      replace hF26 := hF26.ext hN10.ext
      replace hM26 := hM26.ext hN10.ext
      replace hF28 := hF28.ext hN10.ext
      replace hN28 := hN28.ext hN10.ext
      replace hF34 := hF34.ext hN10.ext
      replace hM34 := hM34.ext hN10.ext
      have hB10 : Blk w10 _ _ [_, _, _, _, _, _, _] := hN10.blk
      refine WL_s (ev_stores sz36 rfl rfl rfl (by simp [Value.oneCell']) hB10 (by simp)) ?_
      rintro _ w9_3 hS9_3
      have hz9_3 := hS9_3.size
      replace hE := hE.sto hS9_3 (by omega)
      replace hm := hm.sto hS9_3 (by omega)
      replace hA := hA.sto hS9_3 (by omega)
      replace hB3 := hB3.sto hS9_3 (by omega)
      replace hB4 := hB4.sto hS9_3 (by omega)
      replace hF26 := hF26.sto hS9_3 (by omega)
      replace hM26 := hM26.sto hS9_3 (by omega)
      replace hF28 := hF28.sto hS9_3 (by omega)
      replace hN28 := hN28.sto hS9_3 (by omega)
      replace hF34 := hF34.sto hS9_3 (by omega)
      replace hM34 := hM34.sto hS9_3 (by omega)
      replace hB10 : Blk w9_3 _ _ [_, _, _, _, _, _, _] := hS9_3.blk
      refine WL_nil ?_
      refine thenE_n ?_
      refine W_seq ?_
      refine W_region ?_
      refine WL_q rfl (ev_loads st29 sz29 rfl (cellsB hB4) rfl) ?_
      refine WL_m rfl (ev_call rfl (toNetwork_spec _ A _ hA (by omega) (by omega))) ?_
      rintro _ w36 ⟨h36, rfl, hF36, hE36⟩
      have hz36 := hE36.size
      replace hE := hE.trans hE36
      replace hm := hm.ext hE36
      replace hA := hA.ext hE36
      replace hB3 := hB3.ext hE36
      replace hB4 := hB4.ext hE36
      replace hF26 := hF26.ext hE36
      replace hM26 := hM26.ext hE36
      replace hF28 := hF28.ext hE36
      replace hN28 := hN28.ext hE36
      replace hF34 := hF34.ext hE36
      replace hM34 := hM34.ext hE36
      replace hB10 := hB10.ext hE36
      have hN36 := hF36.is
      refine WL_m rfl (ev_alloc zr40) ?_
      rintro _ w11 ⟨rfl, hN11⟩
      have hz11 := hN11.size
      replace hE := hE.trans hN11.ext
      replace hm := hm.ext hN11.ext
      replace hA := hA.ext hN11.ext
      replace hB3 := hB3.ext hN11.ext
      replace hB4 := hB4.ext hN11.ext
      replace hF26 := hF26.ext hN11.ext
      replace hM26 := hM26.ext hN11.ext
      replace hF28 := hF28.ext hN11.ext
      replace hN28 := hN28.ext hN11.ext
      replace hF34 := hF34.ext hN11.ext
      replace hM34 := hM34.ext hN11.ext
      replace hB10 := hB10.ext hN11.ext
      replace hF36 := hF36.ext hN11.ext
      replace hN36 := hN36.ext hN11.ext
      have hB11 : Blk w11 _ _ [_, _, _] := hN11.blk
      refine WL_s (ev_stores sz40 rfl rfl rfl (by simp [Value.oneCell']) hB11 (by simp)) ?_
      rintro _ w10_3 hS10_3
      have hz10_3 := hS10_3.size
      replace hE := hE.sto hS10_3 (by omega)
      replace hm := hm.sto hS10_3 (by omega)
      replace hA := hA.sto hS10_3 (by omega)
      replace hB3 := hB3.sto hS10_3 (by omega)
      replace hB4 := hB4.sto hS10_3 (by omega)
      replace hF26 := hF26.sto hS10_3 (by omega)
      replace hM26 := hM26.sto hS10_3 (by omega)
      replace hF28 := hF28.sto hS10_3 (by omega)
      replace hN28 := hN28.sto hS10_3 (by omega)
      replace hF34 := hF34.sto hS10_3 (by omega)
      replace hM34 := hM34.sto hS10_3 (by omega)
      replace hB10 := hB10.sto hS10_3 (by omega)
      replace hF36 := hF36.sto hS10_3 (by omega)
      replace hN36 := hN36.sto hS10_3 (by omega)
      replace hB11 : Blk w10_3 _ _ [_, _, _] := hS10_3.blk
      refine WL_nil ?_
      refine thenE_n ?_
      refine W_seq ?_
      refine W_region ?_
      refine WL_q rfl (ev_loads st36 sz36 rfl (cellsB hB10) rfl) ?_
      refine WL_q rfl (ev_loads st40 sz40 rfl (cellsB hB11) rfl) ?_
      refine WL_q rfl (ev_move rfl) ?_
      refine WL_m rfl (ev_call rfl (HaltingRound_spec _ m _ A _ _ hM34 (by omega) (by omega) hN36 (by omega) (by omega))) ?_
      rintro _ w41 ⟨x41, q41, rfl, hr41, hE41⟩
      have hz41 := hE41.size
      replace hE := hE.trans hE41
      replace hm := hm.ext hE41
      replace hA := hA.ext hE41
      replace hB3 := hB3.ext hE41
      replace hB4 := hB4.ext hE41
      replace hF26 := hF26.ext hE41
      replace hM26 := hM26.ext hE41
      replace hF28 := hF28.ext hE41
      replace hN28 := hN28.ext hE41
      replace hF34 := hF34.ext hE41
      replace hM34 := hM34.ext hE41
      replace hB10 := hB10.ext hE41
      replace hF36 := hF36.ext hE41
      replace hN36 := hN36.ext hE41
      replace hB11 := hB11.ext hE41
      refine WL_q rfl (ev_move rfl) ?_
      refine WL_q rfl (ev_extract rfl rfl) ?_
      refine WL_q rfl (ev_extract rfl rfl) ?_
      refine WL_q rfl (ev_assign rfl) ?_
      refine WL_q rfl (ev_assign rfl) ?_
      refine WL_nil ?_
      refine thenE_n ?_
      refine W_seq ?_
      refine W_seq ?_
      refine W_region ?_
      refine WL_q rfl (ev_move rfl) ?_
      refine WL_q rfl (ev_move rfl) ?_
      refine WL_q rfl (ev_neq rfl rfl) ?_
      refine WL_q rfl (ev_move rfl) ?_
      refine WL_splitv (t := 47) rfl (fun hg46 => ?_) (fun hg46 => ?_)
      · have hp46 := of_decide_eq_true hg46
        refine WL_no rfl rfl hg46 rfl ?_
        refine WL_no rfl rfl hg46 rfl ?_
        refine WL_no rfl rfl hg46 rfl ?_
        refine WL_q rfl (ev_pick_t rfl hg46 rfl) ?_
        refine WL_nil ?_
        refine thenE_n ?_
        refine W_cond_t rfl ?_
        refine W_seq ?_
        refine W_region ?_
        refine WL_q rfl (ev_assign rfl) ?_
        refine WL_nil ?_
        refine thenE_n ?_
        refine W_ret ?_
        refine thenE_r ?_
        refine ret1 rfl rfl ?_
        first | (exact ⟨rfl, hE⟩) | (exact (bneE hg46 (hr41.det1 hr30)).elim) | (exact absurd (hr41.det1 hr30) hp46) | (exact absurd (hr41.det1 hr30) (of_decide_eq_false hg46)) | (exact (bneE hg46 (hr41.det2 hr30)).elim) | (exact absurd (hr41.det2 hr30) hp46) | (exact absurd (hr41.det2 hr30) (of_decide_eq_false hg46)) | (exact (bneE hg46 (hr41.det3 hr30)).elim) | (exact absurd (hr41.det3 hr30) hp46) | (exact absurd (hr41.det3 hr30) (of_decide_eq_false hg46)) | (exact (tfX hg46).elim) | (exact (decF hg46).elim) | (exfalso; omega)
      · have hp46 := of_decide_eq_false hg46
        refine WL_qg rfl rfl hg46 rfl (ev_move rfl) ?_
        refine WL_qg rfl rfl hg46 rfl (ev_move rfl) ?_
        refine WL_qg rfl rfl hg46 rfl (ev_neq_b Try.underlying4 rfl rfl) ?_
        refine WL_q rfl (ev_pick_f rfl hg46 rfl) ?_
        refine WL_nil ?_
        refine thenE_n ?_
        refine W_cond rfl (fun hg50 => ?_) (fun hg50 => ?_)
        · refine W_seq ?_
          refine W_region ?_
          refine WL_q rfl (ev_assign rfl) ?_
          refine WL_nil ?_
          refine thenE_n ?_
          refine W_ret ?_
          refine thenE_r ?_
          refine ret1 rfl rfl ?_
          first | (exact ⟨rfl, hE⟩) | (exact (bneE hg50 (hr41.det1 hr30)).elim) | (exact absurd (hr41.det1 hr30) hp50) | (exact absurd (hr41.det1 hr30) (of_decide_eq_false hg50)) | (exact (bneE hg50 (hr41.det2 hr30)).elim) | (exact absurd (hr41.det2 hr30) hp50) | (exact absurd (hr41.det2 hr30) (of_decide_eq_false hg50)) | (exact (bneE hg50 (hr41.det3 hr30)).elim) | (exact absurd (hr41.det3 hr30) hp50) | (exact absurd (hr41.det3 hr30) (of_decide_eq_false hg50)) | (exact (tfX hg50).elim) | (exact (decF hg50).elim) | (exfalso; omega)
        · refine W_skip ?_
          refine thenE_n ?_
          refine W_seq ?_
          refine W_seq ?_
          refine W_drawE [(0, true), (1, true), (2, false), (3, false), (4, true)] mixed (by kernel_rfl) rfl (by kernel_rfl) ?_
          intro wd14 hEd14 hzd14
          replace hE := hE.trans hEd14
          replace hm := hm.ext hEd14
          replace hA := hA.ext hEd14
          replace hB3 := hB3.ext hEd14
          replace hB4 := hB4.ext hEd14
          replace hF26 := hF26.ext hEd14
          replace hM26 := hM26.ext hEd14
          replace hF28 := hF28.ext hEd14
          replace hN28 := hN28.ext hEd14
          replace hF34 := hF34.ext hEd14
          replace hM34 := hM34.ext hEd14
          replace hB10 := hB10.ext hEd14
          replace hF36 := hF36.ext hEd14
          replace hN36 := hN36.ext hEd14
          replace hB11 := hB11.ext hEd14
          have hDd14 := Ext.refl wd14
          refine PW_q rfl rfl (fun wq hq => ev_loads st36 sz36 rfl (cellsB (hq.blk hB10)) rfl) ?_
          refine PW_q rfl rfl (fun wq hq => ev_loads st26 sz26 rfl (cellsB (hq.blk hB3)) rfl) ?_
          refine PW_m rfl rfl (ev_call rfl (toMachine_spec _ m _ hm (by omega) (by omega))) ?_
          rintro _ w54 ⟨h54, rfl, hF54, hE54⟩
          have hz54 := hE54.size
          replace hE := hE.trans hE54
          replace hDd14 := hDd14.trans hE54
          have hM54 := hF54.is
          refine ⟨hDd14, ?_⟩
          have hm_3 := hm.ext hDd14
          have hA_3 := hA.ext hDd14
          have hB3_3 := hB3.ext hDd14
          have hB4_3 := hB4.ext hDd14
          have hF26_3 := hF26.ext hDd14
          have hM26_3 := hM26.ext hDd14
          have hF28_3 := hF28.ext hDd14
          have hN28_3 := hN28.ext hDd14
          have hF34_3 := hF34.ext hDd14
          have hM34_3 := hM34.ext hDd14
          have hB10_3 := hB10.ext hDd14
          have hF36_3 := hF36.ext hDd14
          have hN36_3 := hN36.ext hDd14
          have hB11_3 := hB11.ext hDd14
          refine PW_m rfl rfl (ev_call rfl (eqMachine_spec _ _ m _ hM34_3 hM54 (by omega))) ?_
          rintro _ w55 ⟨rfl, hE55⟩
          have hz55 := hE55.size
          replace hE := hE.trans hE55
          replace hDd14 := hDd14.trans hE55
          replace hF54 := hF54.ext hE55
          replace hM54 := hM54.ext hE55
          refine ⟨hDd14, ?_⟩
          refine PW_q rfl rfl (fun wq hq => ev_not rfl) ?_
          replace hm := hm.ext hDd14
          replace hA := hA.ext hDd14
          replace hB3 := hB3.ext hDd14
          replace hB4 := hB4.ext hDd14
          replace hF26 := hF26.ext hDd14
          replace hM26 := hM26.ext hDd14
          replace hF28 := hF28.ext hDd14
          replace hN28 := hN28.ext hDd14
          replace hF34 := hF34.ext hDd14
          replace hM34 := hM34.ext hDd14
          replace hB10 := hB10.ext hDd14
          replace hF36 := hF36.ext hDd14
          replace hN36 := hN36.ext hDd14
          replace hB11 := hB11.ext hDd14
          refine PW_nil ?_
          refine thenE_n ?_
          refine W_cond rfl (fun hg56 => ?_) (fun hg56 => ?_)
          · have hg55 := not_true hg56
            refine W_seq ?_
            refine W_region ?_
            refine WL_q rfl (ev_assign rfl) ?_
            refine WL_nil ?_
            refine thenE_n ?_
            refine W_ret ?_
            refine thenE_r ?_
            refine ret1 rfl rfl ?_
            first | (exact ⟨rfl, hE⟩) | (exact (bneE hg55 (hr41.det1 hr30)).elim) | (exact absurd (hr41.det1 hr30) hp55) | (exact absurd (hr41.det1 hr30) (of_decide_eq_false hg55)) | (exact (bneE hg55 (hr41.det2 hr30)).elim) | (exact absurd (hr41.det2 hr30) hp55) | (exact absurd (hr41.det2 hr30) (of_decide_eq_false hg55)) | (exact (bneE hg55 (hr41.det3 hr30)).elim) | (exact absurd (hr41.det3 hr30) hp55) | (exact absurd (hr41.det3 hr30) (of_decide_eq_false hg55)) | (exact (tfX hg55).elim) | (exact (decF hg55).elim) | (exfalso; omega)
          · have hg55 := not_false hg56
            refine W_skip ?_
            refine thenE_n ?_
            refine W_seq ?_
            refine W_seq ?_
            refine W_drawE [(0, true), (1, true), (2, false), (3, false), (4, true)] mixed (by kernel_rfl) rfl (by kernel_rfl) ?_
            intro wd16 hEd16 hzd16
            replace hE := hE.trans hEd16
            replace hm := hm.ext hEd16
            replace hA := hA.ext hEd16
            replace hB3 := hB3.ext hEd16
            replace hB4 := hB4.ext hEd16
            replace hF26 := hF26.ext hEd16
            replace hM26 := hM26.ext hEd16
            replace hF28 := hF28.ext hEd16
            replace hN28 := hN28.ext hEd16
            replace hF34 := hF34.ext hEd16
            replace hM34 := hM34.ext hEd16
            replace hB10 := hB10.ext hEd16
            replace hF36 := hF36.ext hEd16
            replace hN36 := hN36.ext hEd16
            replace hB11 := hB11.ext hEd16
            replace hF54 := hF54.ext hEd16
            replace hM54 := hM54.ext hEd16
            have hDd16 := Ext.refl wd16
            refine PW_q rfl rfl (fun wq hq => ev_loads st40 sz40 rfl (cellsB (hq.blk hB11)) rfl) ?_
            refine PW_q rfl rfl (fun wq hq => ev_loads st29 sz29 rfl (cellsB (hq.blk hB4)) rfl) ?_
            refine PW_m rfl rfl (ev_call rfl (toNetwork_spec _ A _ hA (by omega) (by omega))) ?_
            rintro _ w59 ⟨h59, rfl, hF59, hE59⟩
            have hz59 := hE59.size
            replace hE := hE.trans hE59
            replace hDd16 := hDd16.trans hE59
            have hN59 := hF59.is
            refine ⟨hDd16, ?_⟩
            have hm_3 := hm.ext hDd16
            have hA_3 := hA.ext hDd16
            have hB3_3 := hB3.ext hDd16
            have hB4_3 := hB4.ext hDd16
            have hF26_3 := hF26.ext hDd16
            have hM26_3 := hM26.ext hDd16
            have hF28_3 := hF28.ext hDd16
            have hN28_3 := hN28.ext hDd16
            have hF34_3 := hF34.ext hDd16
            have hM34_3 := hM34.ext hDd16
            have hB10_3 := hB10.ext hDd16
            have hF36_3 := hF36.ext hDd16
            have hN36_3 := hN36.ext hDd16
            have hB11_3 := hB11.ext hDd16
            have hF54_3 := hF54.ext hDd16
            have hM54_3 := hM54.ext hDd16
            refine PW_m rfl rfl (ev_call rfl (eqNetwork_spec _ _ A _ hN36_3 hN59 (by omega))) ?_
            rintro _ w60 ⟨rfl, hE60⟩
            have hz60 := hE60.size
            replace hE := hE.trans hE60
            replace hDd16 := hDd16.trans hE60
            replace hF59 := hF59.ext hE60
            replace hN59 := hN59.ext hE60
            refine ⟨hDd16, ?_⟩
            refine PW_q rfl rfl (fun wq hq => ev_not rfl) ?_
            replace hm := hm.ext hDd16
            replace hA := hA.ext hDd16
            replace hB3 := hB3.ext hDd16
            replace hB4 := hB4.ext hDd16
            replace hF26 := hF26.ext hDd16
            replace hM26 := hM26.ext hDd16
            replace hF28 := hF28.ext hDd16
            replace hN28 := hN28.ext hDd16
            replace hF34 := hF34.ext hDd16
            replace hM34 := hM34.ext hDd16
            replace hB10 := hB10.ext hDd16
            replace hF36 := hF36.ext hDd16
            replace hN36 := hN36.ext hDd16
            replace hB11 := hB11.ext hDd16
            replace hF54 := hF54.ext hDd16
            replace hM54 := hM54.ext hDd16
            refine PW_nil ?_
            refine thenE_n ?_
            refine W_cond rfl (fun hg61 => ?_) (fun hg61 => ?_)
            · have hg60 := not_true hg61
              refine W_seq ?_
              refine W_region ?_
              refine WL_q rfl (ev_assign rfl) ?_
              refine WL_nil ?_
              refine thenE_n ?_
              refine W_ret ?_
              refine thenE_r ?_
              refine ret1 rfl rfl ?_
              first | (exact ⟨rfl, hE⟩) | (exact (bneE hg60 (hr41.det1 hr30)).elim) | (exact absurd (hr41.det1 hr30) hp60) | (exact absurd (hr41.det1 hr30) (of_decide_eq_false hg60)) | (exact (bneE hg60 (hr41.det2 hr30)).elim) | (exact absurd (hr41.det2 hr30) hp60) | (exact absurd (hr41.det2 hr30) (of_decide_eq_false hg60)) | (exact (bneE hg60 (hr41.det3 hr30)).elim) | (exact absurd (hr41.det3 hr30) hp60) | (exact absurd (hr41.det3 hr30) (of_decide_eq_false hg60)) | (exact (tfX hg60).elim) | (exact (decF hg60).elim) | (exfalso; omega)
            · have hg60 := not_false hg61
              refine W_skip ?_
              refine thenE_n ?_
              refine W_seq ?_
              refine W_region ?_
              refine WL_q rfl (ev_assign rfl) ?_
              refine WL_nil ?_
              refine thenE_n ?_
              refine W_ret ?_
              refine ret1 rfl rfl ?_
              first | (exact ⟨rfl, hE⟩) | (exact (bneE hg60 (hr41.det1 hr30)).elim) | (exact absurd (hr41.det1 hr30) hp60) | (exact absurd (hr41.det1 hr30) (of_decide_eq_false hg60)) | (exact (bneE hg60 (hr41.det2 hr30)).elim) | (exact absurd (hr41.det2 hr30) hp60) | (exact absurd (hr41.det2 hr30) (of_decide_eq_false hg60)) | (exact (bneE hg60 (hr41.det3 hr30)).elim) | (exact absurd (hr41.det3 hr30) hp60) | (exact absurd (hr41.det3 hr30) (of_decide_eq_false hg60)) | (exact (tfX hg60).elim) | (exact (decF hg60).elim) | (exfalso; omega)

end Go.Proofs.Ytebjcbgencenbaa
