/- Contracts of HaltingRound, of the program and of the reference; the walk of FnExactHaltingRound. -/
import Derived.Test.YtebjcbgencenbaaGreatHalt
namespace Go.Proofs.YtebjcbgencenbaaGreat
open Go Go.RowKit

/-- All nodes have an output. -/
def hltd (m : Mach) (S : List Int) : Bool := !(S.any fun s => decide (m.output.getD s.toNat 0 < 0))
theorem hltd_t {m : Mach} {S : List Int} (h : (S.any fun s => decide (m.output.getD s.toNat 0 < 0)) = false) : hltd m S = true := by unfold hltd; rw [h]; rfl
theorem hltd_f {m : Mach} {S : List Int} (h : (S.any fun s => decide (m.output.getD s.toNat 0 < 0)) = true) : hltd m S = false := by unfold hltd; rw [h]; rfl
theorem hltd_succ {m : Mach} {S : List Int} {j : Nat} (h : hltd m (S.take j) = true) (hj : j < S.length) (h2 : S[j].toNat < m.output.length) : decide (0 ≤ m.output[S[j].toNat]) = hltd m (S.take (j + 1)) := by
  unfold hltd at h ⊢
  rw [← List.take_append_getElem hj, List.any_append]
  have h3 : ((S.take j).any fun s => decide (m.output.getD s.toNat 0 < 0)) = false := by simpa using h
  rw [h3]
  simp only [List.any_cons, List.any_nil, Bool.or_false, Bool.false_or, getD_eq h2]
  by_cases h4 : 0 ≤ m.output[S[j].toNat]
  · have h5 : ¬ m.output[S[j].toNat] < 0 := by omega
    simp [h4, h5]
  · have h5 : m.output[S[j].toNat] < 0 := by omega
    simp [h4, h5]
theorem hltd_stay {m : Mach} {S : List Int} {j : Nat} (h : hltd m (S.take j) = false) (hj : j < S.length) : false = hltd m (S.take (j + 1)) := by
  unfold hltd at h ⊢
  rw [← List.take_append_getElem hj, List.any_append]
  have h3 : ((S.take j).any fun s => decide (m.output.getD s.toNat 0 < 0)) = true := by simpa using h
  rw [h3]; rfl
theorem hltd_full {m : Mach} {S : List Int} {j : Nat} {b : Bool} (h : hltd m (S.take j) = b) (hj : S.length ≤ j) : hltd m S = b := by rw [List.take_of_length_le hj] at h; exact h
/-- The round in which a run halts. -/
def HR (m : Mach) (A : Net) (n r : Int) (q : Bool) : Prop :=
  (∃ k : Nat, Fits m A ∧ inR n 0 2000 = true ∧ (k : Int) ≤ n ∧ hltd m (stN m A k) = true ∧ (∀ j, j < k → hltd m (stN m A j) = false) ∧ r = (k : Int) ∧ q = true) ∨
  ((∀ k : Nat, Fits m A → inR n 0 2000 = true → (k : Int) ≤ n → hltd m (stN m A k) = false) ∧ r = 0 ∧ q = false)
theorem HR.det {m : Mach} {A : Net} {n r r' : Int} {q q' : Bool} (h : HR m A n r q) (k : HR m A n r' q') : r = r' ∧ q = q' := by
  rcases h with ⟨i, h1, h2, h3, h4, h5, h6, h7⟩ | ⟨h1, h6, h7⟩ <;> rcases k with ⟨j, k1, k2, k3, k4, k5, k6, k7⟩ | ⟨k1, k6, k7⟩
  · have e : i = j := by
      rcases Nat.lt_trichotomy i j with h | h | h
      · have := k5 i h; rw [h4] at this; cases this
      · exact h
      · have := h5 j h; rw [k4] at this; cases this
    exact ⟨by rw [h6, k6, e], by rw [h7, k7]⟩
  · have := k1 i h1 h2 h3; rw [h4] at this; cases this
  · have := h1 j k1 k2 k3; rw [k4] at this; cases this
  · exact ⟨by rw [h6, k6], by rw [h7, k7]⟩
theorem HR.det1 {m : Mach} {A : Net} {n r r' : Int} {q q' : Bool} (h : HR m A n r q) (k : HR m A n r' q') : r = r' := (h.det k).1
theorem HR.det2 {m : Mach} {A : Net} {n r r' : Int} {q q' : Bool} (h : HR m A n r q) (k : HR m A n r' q') : q = q' := (h.det k).2
theorem HR.at {m : Mach} {A : Net} {n : Int} {i : Nat} (h1 : Fits m A) (h2 : inR n 0 2000 = true) (h3 : (i : Int) ≤ n) (h4 : hltd m (stN m A i) = true) (h5 : ∀ j, j < i → hltd m (stN m A j) = false) : HR m A n (i : Int) true := .inl ⟨i, h1, h2, h3, h4, h5, rfl, rfl⟩
theorem HR.last {m : Mach} {A : Net} {n : Int} {i : Nat} (h3 : n = (i : Int)) (h4 : hltd m (stN m A i) = false) (h5 : ∀ j, j < i → hltd m (stN m A j) = false) : HR m A n 0 false := .inr ⟨fun k _ _ hk => by
  rcases Nat.lt_or_ge k i with h | h
  · exact h5 k h
  · rw [show k = i by omega]; exact h4, rfl, rfl⟩
theorem HR.same {m : Mach} {A : Net} {n : Int} {i : Nat} (h3 : stepS m A (stN m A i) = stN m A i) (h4 : hltd m (stN m A i) = false) (h5 : ∀ j, j < i → hltd m (stN m A j) = false) : HR m A n 0 false := .inr ⟨fun k _ _ _ => by
  rcases Nat.lt_or_ge k i with h | h
  · exact h5 k h
  · rw [← stN_fix h3 h]; exact h4, rfl, rfl⟩
theorem HR.nofit {m : Mach} {A : Net} {n : Int} (h : ¬ Fits m A) : HR m A n 0 false := .inr ⟨fun _ h1 => absurd h1 h, rfl, rfl⟩
theorem HR.noin {m : Mach} {A : Net} {n : Int} (h : inR n 0 2000 = false) : HR m A n 0 false := .inr ⟨fun _ _ h1 => (by rw [h] at h1; cases h1), rfl, rfl⟩
theorem hl_succ {m : Mach} {A : Net} {i : Nat} (h5 : ∀ j, j < i → hltd m (stN m A j) = false) (h4 : hltd m (stN m A i) = false) : ∀ j, j < i + 1 → hltd m (stN m A j) = false := fun j hj => by
  rcases Nat.lt_or_ge j i with h | h
  · exact h5 j h
  · rw [show j = i by omega]; exact h4

set_option maxRecDepth 100000 in
theorem haltingStates_1 {lo hi : Nat} (h : MA) (m : Mach) (s : Int) (b : Nat) (T : TypeId) (w : World) (hB : Blk w b T [VI m.deg, VI m.states, VI m.msgs, .slice h.a1 m.start.length h.c1, .slice h.a2 m.send.length h.c2, .slice h.a3 m.clauses.length h.c3, .slice h.a4 m.output.length h.c4]) (ho : Ints lo hi w h.a4 h.c4 m.output) (hs : 0 ≤ s ∧ s.toNat < m.output.length) :
    Fn Tryz.prog 51 #[VI s, ptr b 0] w (fun v w' => v = VB (decide (m.output.getD s.toNat 0 < 0)) ∧ Ext w w') := by
  have hE := Ext.refl w
  refine Fn_of Tryz.func51 rfl rfl (by kernel_rfl) rfl ?_
  refine W_seq ?_
  refine W_region ?_
  refine WL_q rfl (ev_assign rfl) ?_
  refine WL_nil ?_
  refine thenE_n ?_
  refine W_seq ?_
  refine W_region ?_
  refine WL_q rfl (ev_fieldAddr fo36_6 rfl) ?_
  refine WL_q rfl (ev_load one24 rfl (hB.cell rfl)) ?_
  refine WL_q rfl (ev_move rfl) ?_
  refine WL_q rfl (ev_indexAddr Tryz.underlying24 sz3 rfl rfl (ho.isSome (by omega)) (by omega) (by omega)) ?_
  refine WL_q rfl (ev_load one3 rfl (ho.cell (i := s.toNat) (by omega))) ?_
  refine WL_q rfl (ev_lss rfl rfl) ?_
  refine WL_q rfl (ev_assign rfl) ?_
  refine WL_nil ?_
  refine thenE_n ?_
  refine W_ret ?_
  refine ret1 rfl rfl ?_
  exact ⟨by rw [getD_eq hs.2], hE⟩

set_option maxRecDepth 100000 in
theorem haltingStates_spec {lom him : Nat} (nm : MA) (m : Mach) {loA hiA : Nat} (nA : NA) (A : Net) (k : Int) (w : World) (hm : IsMach lom him w nm m) (hhim : him ≤ w.heap.size) (hnm : totM m ≤ 1048576) (hA : IsNet loA hiA w nA A) (hhiA : hiA ≤ w.heap.size) (hnA : totN A ≤ 1048576) :
    Fn Tryz.prog 29 #[machV nm m, netV nA A, VI k] w (fun r w' => ∃ x a n c q, r = .tuple #[VI x, .slice a n c, VB q] ∧ HR m A k x q ∧ Ext w w') := by
  have hmm : totL m.start + totL m.send + totC m.clauses + m.output.length ≤ 1048576 := hnm
  have hqA := totL_len A.ends
  have hmA : totL A.ends + A.ids.length + A.inputs.length ≤ 1048576 := hnA
  have hs0 := stS_len m A
  have hE := Ext.refl w
  refine Fn_of Tryz.func29 rfl rfl (by kernel_rfl) rfl ?_
  refine W_seq ?_
  refine W_region ?_
  refine WL_m rfl (ev_box rfl) ?_
  rintro _ w3 ⟨rfl, hN3⟩
  have hz3 := hN3.size
  replace hE := hE.trans hN3.ext
  replace hm := hm.ext hN3.ext
  replace hA := hA.ext hN3.ext
  have hB3 : Blk w3 _ _ [_, _, _, _, _, _, _] := hN3.blk
  refine WL_m rfl (ev_box rfl) ?_
  rintro _ w4 ⟨rfl, hN4⟩
  have hz4 := hN4.size
  replace hE := hE.trans hN4.ext
  replace hm := hm.ext hN4.ext
  replace hA := hA.ext hN4.ext
  replace hB3 := hB3.ext hN4.ext
  have hB4 : Blk w4 _ _ [_, _, _] := hN4.blk
  refine WL_q rfl (ev_assign rfl) ?_
  refine WL_q rfl (ev_assign rfl) ?_
  refine WL_q rfl (ev_assign rfl) ?_
  refine WL_nil ?_
  refine thenE_n ?_
  refine W_seq ?_
  refine W_seq ?_
  refine W_region ?_
  refine WL_q rfl (ev_loads st36 sz36 rfl (cellsB hB3) rfl) ?_
  refine WL_q rfl (ev_loads st40 sz40 rfl (cellsB hB4) rfl) ?_
  refine WL_m rfl (ev_call rfl (fits_spec _ m _ A _ hm (by omega) (by omega) hA (by omega) (by omega))) ?_
  rintro _ w13 ⟨b13, rfl, hb13, hE13⟩
  have hz13 := hE13.size
  replace hE := hE.trans hE13
  replace hm := hm.ext hE13
  replace hA := hA.ext hE13
  replace hB3 := hB3.ext hE13
  replace hB4 := hB4.ext hE13
  refine WL_q rfl (ev_not rfl) ?_
  refine WL_q rfl (ev_move rfl) ?_
  refine WL_splitv (t := 15) rfl (fun hg14 => ?_) (fun hg14 => ?_)
  · have hg13 := not_true hg14
    have hp13 := ttN hb13 hg13
    refine WL_no rfl rfl hg14 rfl ?_
    refine WL_no rfl rfl hg14 rfl ?_
    refine WL_no rfl rfl hg14 rfl ?_
    refine WL_q rfl (ev_pick_t rfl hg14 rfl) ?_
    refine WL_nil ?_
    refine thenE_n ?_
    refine W_cond_t rfl ?_
    refine W_seq ?_
    refine W_region ?_
    refine WL_q rfl (ev_assign rfl) ?_
    refine WL_q rfl (ev_assign rfl) ?_
    refine WL_q rfl (ev_assign rfl) ?_
    refine WL_nil ?_
    refine thenE_n ?_
    refine W_ret ?_
    refine thenE_r ?_
    refine ret3 rfl rfl rfl rfl ?_
    first | (exact ⟨_, _, _, _, _, rfl, .nofit hp13, hE⟩) | (exact ⟨_, _, _, _, _, rfl, .noin hg17, hE⟩) | (exact ⟨_, _, _, _, _, rfl, .last (by omega) hn9 hJ, hE⟩) | (exact ⟨_, _, _, _, _, rfl, .at hp13 hg17 hi' (hltd_t hg27) hJ, hE⟩)
  · have hg13 := not_false hg14
    have hp13 := hb13.1 hg13
    refine WL_qg rfl rfl hg14 rfl (ev_move rfl) ?_
    refine WL_mg rfl rfl hg14 rfl (ev_call rfl (within_spec _ _ _ _)) ?_
    rintro _ _ ⟨rfl, rfl⟩
    refine WL_qg rfl rfl hg14 rfl (ev_not rfl) ?_
    refine WL_q rfl (ev_pick_f rfl hg14 rfl) ?_
    refine WL_nil ?_
    refine thenE_n ?_
    refine W_cond rfl (fun hg18 => ?_) (fun hg18 => ?_)
    · have hg17 := not_true hg18
      have hp17 := inR_false.1 hg17
      refine W_seq ?_
      refine W_region ?_
      refine WL_q rfl (ev_assign rfl) ?_
      refine WL_q rfl (ev_assign rfl) ?_
      refine WL_q rfl (ev_assign rfl) ?_
      refine WL_nil ?_
      refine thenE_n ?_
      refine W_ret ?_
      refine thenE_r ?_
      refine ret3 rfl rfl rfl rfl ?_
      first | (exact ⟨_, _, _, _, _, rfl, .nofit hp13, hE⟩) | (exact ⟨_, _, _, _, _, rfl, .noin hg17, hE⟩) | (exact ⟨_, _, _, _, _, rfl, .last (by omega) hn9 hJ, hE⟩) | (exact ⟨_, _, _, _, _, rfl, .at hp13 hg17 hi' (hltd_t hg27) hJ, hE⟩)
    · have hg17 := not_false hg18
      have hp17 := inR_true.1 hg17
      refine W_skip ?_
      refine thenE_n ?_
      refine W_seq ?_
      refine W_region ?_
      refine WL_q rfl (ev_loads st36 sz36 rfl (cellsB hB3) rfl) ?_
      refine WL_q rfl (ev_loads st40 sz40 rfl (cellsB hB4) rfl) ?_
      have hin := inR_true.1 hg17
      have hnd0 := hp13.2.1.nodes
      have hf9 := hp13
      refine WL_m rfl (ev_call rfl (startStates_spec _ m _ A _ hm (by omega) (by omega) hA (by omega) (by omega) (by assumption))) ?_
      rintro _ w22 ⟨a22, c22, rfl, hO22, hE22⟩
      have hz22 := hE22.size
      replace hE := hE.trans hE22
      replace hm := hm.ext hE22
      replace hA := hA.ext hE22
      replace hB3 := hB3.ext hE22
      replace hB4 := hB4.ext hE22
      refine WL_q rfl (ev_assign rfl) ?_
      refine WL_nil ?_
      refine thenE_n ?_
      refine W_seq ?_
      refine W_region ?_
      refine WL_q rfl (ev_assign rfl) ?_
      refine WL_nil ?_
      refine thenE_n ?_
      refine W_block ?_
      refine W_loopC (G := Nat × Option Addr × Nat) [(2, _), (3, _), (4, _)] ((Subs.c rfl (Subs.c rfl (Subs.c rfl Subs.n)))) (fun ⟨i, a, c⟩ => [(9, .slice a (stN m A i).length c), (10, VI (i : Int))]) (fun ⟨i, a, c⟩ w' => Ext w22 w' ∧ (i : Int) ≤ k ∧ Own w.heap.size w' 3 1 a (stN m A i).length c ((stN m A i).map VI) ∧ ∀ j, j < i → hltd m (stN m A j) = false) (fun g => k.toNat + 1 - g.1) (0, _, _) ((Subs.c rfl (Subs.c (lkI rfl (by omega)) Subs.n))) (⟨Ext.refl _, ⟨by omega, hO22.mono (by omega), fun j h => by omega⟩⟩) ?_
      rintro ⟨i, a, c⟩ wL0 ⟨hRL0, hi', hO, hJ⟩
      have hzL0 := hRL0.size
      replace hE := hE.trans hRL0
      replace hm := hm.ext hRL0
      replace hA := hA.ext hRL0
      replace hB3 := hB3.ext hRL0
      replace hB4 := hB4.ext hRL0
      replace hO22 := hO22.ext hRL0
      refine W_seq ?_
      refine W_block ?_
      refine W_seq ?_
      refine W_seq ?_
      refine W_region ?_
      refine WL_q rfl (ev_move rfl) ?_
      refine WL_q rfl (ev_makeFunc rfl rfl) ?_
      have hso := stN_ok (by assumption : Fits m A) i
      have hsl := stN_len m A i
      have hnd := (by assumption : Fits m A).2.1.nodes
      refine WL_m rfl (ev_call rfl (ContainsFunc_int _ _ (stN m A i) _ _ (fun s => decide (m.output.getD s.toNat 0 < 0)) _ (own_i hO) (by omega) (fun u h w1 hw => haltingStates_1 nm m _ _ _ w1 (hB3.ext hw) (hm.output.ext hw) (by have := hso.rng h; have := hf9.1.states; have := hf9.1.outLen; omega)))) ?_
      rintro _ w27 ⟨rfl, hE27⟩
      have hz27 := hE27.size
      replace hE := hE.trans hE27
      replace hRL0 := hRL0.trans hE27
      replace hm := hm.ext hE27
      replace hA := hA.ext hE27
      replace hB3 := hB3.ext hE27
      replace hB4 := hB4.ext hE27
      replace hO22 := hO22.ext hE27
      replace hO := hO.ext hE27
      refine WL_q rfl (ev_not rfl) ?_
      refine WL_nil ?_
      refine thenE_n ?_
      refine W_cond rfl (fun hg28 => ?_) (fun hg28 => ?_)
      · have hg27 := not_true hg28
        refine W_seq ?_
        refine W_region ?_
        refine WL_q rfl (ev_move rfl) ?_
        refine WL_q rfl (ev_move rfl) ?_
        refine WL_q rfl (ev_assign rfl) ?_
        refine WL_q rfl (ev_assign rfl) ?_
        refine WL_q rfl (ev_assign rfl) ?_
        refine WL_nil ?_
        refine thenE_n ?_
        refine W_ret ?_
        refine thenE_r ?_
        refine blockE_r ?_
        refine thenE_r ?_
        refine thenE_r ?_
        refine blockE_r ?_
        refine ret3 rfl rfl rfl rfl ?_
        first | (exact ⟨_, _, _, _, _, rfl, .nofit hp13, hE⟩) | (exact ⟨_, _, _, _, _, rfl, .noin hg17, hE⟩) | (exact ⟨_, _, _, _, _, rfl, .last (by omega) hn9 hJ, hE⟩) | (exact ⟨_, _, _, _, _, rfl, .at hp13 hg17 hi' (hltd_t hg27) hJ, hE⟩)
      · have hg27 := not_false hg28
        refine W_skip ?_
        refine thenE_n ?_
        refine W_seq ?_
        refine W_seq ?_
        refine W_region ?_
        have hn9 := hltd_f hg27
        refine WL_q rfl (ev_move rfl) ?_
        refine WL_q rfl (ev_move rfl) ?_
        refine WL_q rfl (ev_eql rfl rfl) ?_
        refine WL_nil ?_
        refine thenE_n ?_
        refine W_cond rfl (fun hg33 => ?_) (fun hg33 => ?_)
        · have hp33 := of_decide_eq_true hg33
          refine W_seq ?_
          refine W_region ?_
          refine WL_q rfl (ev_assign rfl) ?_
          refine WL_q rfl (ev_assign rfl) ?_
          refine WL_q rfl (ev_assign rfl) ?_
          refine WL_nil ?_
          refine thenE_n ?_
          refine W_ret ?_
          refine thenE_r ?_
          refine blockE_r ?_
          refine thenE_r ?_
          refine thenE_r ?_
          refine blockE_r ?_
          refine ret3 rfl rfl rfl rfl ?_
          first | (exact ⟨_, _, _, _, _, rfl, .nofit hp13, hE⟩) | (exact ⟨_, _, _, _, _, rfl, .noin hg17, hE⟩) | (exact ⟨_, _, _, _, _, rfl, .last (by omega) hn9 hJ, hE⟩) | (exact ⟨_, _, _, _, _, rfl, .at hp13 hg17 hi' (hltd_t hg27) hJ, hE⟩)
        · have hp33 := of_decide_eq_false hg33
          refine W_skip ?_
          refine thenE_n ?_
          refine W_region ?_
          refine WL_q rfl (ev_loads st36 sz36 rfl (cellsB hB3) rfl) ?_
          refine WL_q rfl (ev_loads st40 sz40 rfl (cellsB hB4) rfl) ?_
          refine WL_q rfl (ev_move rfl) ?_
          refine WL_m rfl (ev_call rfl (stepStates_spec _ m _ A _ _ (stN m A i) _ hm (by omega) (by omega) hA (by omega) (by omega) (own_i hO) (by omega) (by omega) (by assumption) (by assumption))) ?_
          rintro _ w37 ⟨a37, c37, rfl, hO37, hE37⟩
          have hz37 := hE37.size
          replace hE := hE.trans hE37
          replace hRL0 := hRL0.trans hE37
          replace hm := hm.ext hE37
          replace hA := hA.ext hE37
          replace hB3 := hB3.ext hE37
          replace hB4 := hB4.ext hE37
          replace hO22 := hO22.ext hE37
          replace hO := hO.ext hE37
          refine WL_q rfl (ev_assign rfl) ?_
          refine WL_nil ?_
          refine blockE_n ?_
          refine thenE_n ?_
          refine W_region ?_
          refine WL_q rfl (ev_move rfl) ?_
          refine WL_q rfl (ev_add rfl rfl (by omega)) ?_
          refine WL_q rfl (ev_assign rfl) ?_
          refine WL_nil ?_
          refine thenE_n ?_
          exact ⟨(i + 1, a37, c37), (Subs.c rfl (Subs.c rfl (Subs.c rfl Subs.n))), (Subs.c (lkS rfl (by first | rfl | simp | (simp; omega) | omega)) (Subs.c (lkI rfl (by omega)) Subs.n)), ⟨hRL0, ⟨by omega, hO37.mono (by omega), hl_succ hJ hn9⟩⟩, by first | omega | (dsimp only; omega)⟩

set_option maxRecDepth 100000 in
theorem maHalt_spec {lom him : Nat} (nm : MA) (m : Mach) {loA hiA : Nat} (nA : NA) (A : Net) (k : Int) (w : World) (hm : IsMach lom him w nm m) (hhim : him ≤ w.heap.size) (hnm : totM m ≤ 1048576) (hA : IsNet loA hiA w nA A) (hhiA : hiA ≤ w.heap.size) (hnA : totN A ≤ 1048576) (hf : Fits m A) (hin0 : inR k 0 2000 = true) :
    Fn Tryz.prog 23 #[machV nm m, netV nA A, VI k] w (fun r w' => ∃ x a n c q, r = .tuple #[.slice a n c, VI x, VB q] ∧ HR m A k x q ∧ Ext w w') := by
  have hmm : totL m.start + totL m.send + totC m.clauses + m.output.length ≤ 1048576 := hnm
  have hqA := totL_len A.ends
  have hmA : totL A.ends + A.ids.length + A.inputs.length ≤ 1048576 := hnA
  have hs0 := stS_len m A
  have hin := inR_true.1 hin0
  have hnd := hf.2.1.nodes
  have hst := hf.1.states
  have hol := hf.1.outLen
  have hE := Ext.refl w
  refine Fn_of Tryz.func23 rfl rfl (by kernel_rfl) rfl ?_
  refine W_seq ?_
  refine W_region ?_
  refine WL_m rfl (ev_box rfl) ?_
  rintro _ w3 ⟨rfl, hN3⟩
  have hz3 := hN3.size
  replace hE := hE.trans hN3.ext
  replace hm := hm.ext hN3.ext
  replace hA := hA.ext hN3.ext
  have hB3 : Blk w3 _ _ [_, _, _, _, _, _, _] := hN3.blk
  refine WL_m rfl (ev_box rfl) ?_
  rintro _ w4 ⟨rfl, hN4⟩
  have hz4 := hN4.size
  replace hE := hE.trans hN4.ext
  replace hm := hm.ext hN4.ext
  replace hA := hA.ext hN4.ext
  replace hB3 := hB3.ext hN4.ext
  have hB4 : Blk w4 _ _ [_, _, _] := hN4.blk
  refine WL_q rfl (ev_assign rfl) ?_
  refine WL_q rfl (ev_assign rfl) ?_
  refine WL_q rfl (ev_assign rfl) ?_
  refine WL_nil ?_
  refine thenE_n ?_
  refine W_seq ?_
  refine W_region ?_
  refine WL_q rfl (ev_loads st36 sz36 rfl (cellsB hB3) rfl) ?_
  refine WL_q rfl (ev_loads st40 sz40 rfl (cellsB hB4) rfl) ?_
  refine WL_m rfl (ev_call rfl (maStart_spec _ m _ A _ hm (by omega) (by omega) hA (by omega) (by omega) (by assumption))) ?_
  rintro _ w17 ⟨a17, c17, rfl, hO17, hE17⟩
  have hz17 := hE17.size
  replace hE := hE.trans hE17
  replace hm := hm.ext hE17
  replace hA := hA.ext hE17
  replace hB3 := hB3.ext hE17
  replace hB4 := hB4.ext hE17
  refine WL_q rfl (ev_assign rfl) ?_
  refine WL_nil ?_
  refine thenE_n ?_
  refine W_seq ?_
  refine W_region ?_
  refine WL_q rfl (ev_assign rfl) ?_
  refine WL_nil ?_
  refine thenE_n ?_
  refine W_block ?_
  refine W_loopC (G := Nat × Option Addr × Nat) [(2, _), (3, _), (4, _)] ((Subs.c rfl (Subs.c rfl (Subs.c rfl Subs.n)))) (fun ⟨i, a, c⟩ => [(9, .slice a (stN m A i).length c), (10, VI (i : Int))]) (fun ⟨i, a, c⟩ w' => Ext w17 w' ∧ (i : Int) ≤ k ∧ Own w.heap.size w' 3 1 a (stN m A i).length c ((stN m A i).map VI) ∧ ∀ j, j < i → hltd m (stN m A j) = false) (fun g => k.toNat + 1 - g.1) (0, _, _) ((Subs.c rfl (Subs.c (lkI rfl (by omega)) Subs.n))) (⟨Ext.refl _, ⟨by omega, hO17.mono (by omega), fun j h => by omega⟩⟩) ?_
  rintro ⟨i, a, c⟩ wL0 ⟨hRL0, hi', hO, hJ⟩
  have hzL0 := hRL0.size
  replace hE := hE.trans hRL0
  replace hm := hm.ext hRL0
  replace hA := hA.ext hRL0
  replace hB3 := hB3.ext hRL0
  replace hB4 := hB4.ext hRL0
  replace hO17 := hO17.ext hRL0
  refine W_seq ?_
  refine W_block ?_
  refine W_seq ?_
  refine W_region ?_
  refine WL_q rfl (ev_assign rfl) ?_
  refine WL_nil ?_
  refine thenE_n ?_
  refine W_seq ?_
  refine W_seq ?_
  refine W_region ?_
  refine WL_q rfl (ev_move rfl) ?_
  refine WL_q rfl (ev_len Tryz.underlying24 rfl) ?_
  refine WL_q rfl (ev_move rfl) ?_
  refine WL_nil ?_
  refine thenE_n ?_
  refine W_block ?_
  have hso := stN_ok hf i
  have hsl := stN_len m A i
  refine W_loopC (G := Nat) [(2, _), (3, _), (4, _), (9, _), (10, _), (20, _), (21, _)] ((Subs.c rfl (Subs.c rfl (Subs.c rfl (Subs.c rfl (Subs.c rfl (Subs.c rfl (Subs.c rfl Subs.n)))))))) (fun j => [(11, VB (hltd m ((stN m A i).take j))), (22, VI (j : Int))]) (fun j w' => Ext wL0 w' ∧ j ≤ (stN m A i).length) (fun j => (stN m A i).length - j) 0 ((Subs.c rfl (Subs.c (lkI rfl (by omega)) Subs.n))) (⟨Ext.refl _, Nat.zero_le _⟩) ?_
  rintro j wL2 ⟨hRL2, hj'⟩
  have hzL2 := hRL2.size
  replace hE := hE.trans hRL2
  replace hRL0 := hRL0.trans hRL2
  replace hm := hm.ext hRL2
  replace hA := hA.ext hRL2
  replace hB3 := hB3.ext hRL2
  replace hB4 := hB4.ext hRL2
  replace hO17 := hO17.ext hRL2
  replace hO := hO.ext hRL2
  refine W_seq ?_
  refine W_region ?_
  refine WL_q rfl (ev_lss rfl rfl) ?_
  refine WL_nil ?_
  refine thenE_n ?_
  refine W_seq ?_
  refine W_cond rfl (fun hg23 => ?_) (fun hg23 => ?_)
  · have hp23 := of_decide_eq_true hg23
    refine W_skip ?_
    refine thenE_n ?_
    refine W_seq ?_
    refine W_block ?_
    refine W_seq ?_
    refine W_region ?_
    have hlt2 : j < (stN m A i).length := by omega
    have hrj := hso.rng hlt2
    refine WL_q rfl (ev_indexAddr Tryz.underlying24 sz3 rfl rfl ((own_i hO).isSome (by omega)) (by omega) (by omega)) ?_
    refine WL_q rfl (ev_load one3 rfl ((own_i hO).cell (i := j) (by omega))) ?_
    refine WL_q rfl (ev_assign rfl) ?_
    refine WL_nil ?_
    refine thenE_n ?_
    refine W_region ?_
    refine WL_q rfl (ev_move rfl) ?_
    refine WL_q rfl (ev_move rfl) ?_
    refine WL_splitv (t := 27) rfl (fun hg27 => ?_) (fun hg27 => ?_)
    · refine WL_qg rfl rfl hg27 rfl (ev_fieldAddr fo36_6 rfl) ?_
      refine WL_qg rfl rfl hg27 rfl (ev_load one24 rfl (hB3.cell rfl)) ?_
      refine WL_qg rfl rfl hg27 rfl (ev_move rfl) ?_
      refine WL_qg rfl rfl hg27 rfl (ev_indexAddr Tryz.underlying24 sz3 rfl rfl (hm.output.isSome (by omega)) (by omega) (by omega)) ?_
      refine WL_qg rfl rfl hg27 rfl (ev_load one3 rfl (hm.output.cell (i := ((stN m A i)[j]).toNat) (by omega))) ?_
      refine WL_qg rfl rfl hg27 rfl (ev_geq rfl rfl) ?_
      refine WL_q rfl (ev_pick_t rfl hg27 rfl) ?_
      refine WL_q rfl (ev_assign rfl) ?_
      refine WL_nil ?_
      refine blockE_n ?_
      refine thenE_n ?_
      refine W_region ?_
      refine WL_q rfl (ev_add rfl rfl (by omega)) ?_
      refine WL_q rfl (ev_move rfl) ?_
      refine WL_nil ?_
      refine thenE_n ?_
      exact ⟨j + 1, (Subs.c rfl (Subs.c rfl (Subs.c rfl (Subs.c rfl (Subs.c rfl (Subs.c rfl (Subs.c rfl Subs.n))))))), (Subs.c (lkB rfl (hltd_succ hg27 hlt2 (by omega))) (Subs.c (lkI rfl (by omega)) Subs.n)), ⟨hRL2, by omega⟩, by first | omega | (dsimp only; omega)⟩
    · refine WL_no rfl rfl hg27 rfl ?_
      refine WL_no rfl rfl hg27 rfl ?_
      refine WL_no rfl rfl hg27 rfl ?_
      refine WL_no rfl rfl hg27 rfl ?_
      refine WL_no rfl rfl hg27 rfl ?_
      refine WL_no rfl rfl hg27 rfl ?_
      refine WL_q rfl (ev_pick_f rfl hg27 rfl) ?_
      refine WL_q rfl (ev_assign rfl) ?_
      refine WL_nil ?_
      refine blockE_n ?_
      refine thenE_n ?_
      refine W_region ?_
      refine WL_q rfl (ev_add rfl rfl (by omega)) ?_
      refine WL_q rfl (ev_move rfl) ?_
      refine WL_nil ?_
      refine thenE_n ?_
      exact ⟨j + 1, (Subs.c rfl (Subs.c rfl (Subs.c rfl (Subs.c rfl (Subs.c rfl (Subs.c rfl (Subs.c rfl Subs.n))))))), (Subs.c (lkB rfl (hltd_stay hg27 hlt2)) (Subs.c (lkI rfl (by omega)) Subs.n)), ⟨hRL2, by omega⟩, by first | omega | (dsimp only; omega)⟩
  · have hp23 := of_decide_eq_false hg23
    refine W_exit ?_
    refine thenE_x ?_
    refine thenE_x ?_
    refine blockE_hit ?_
    refine thenE_n ?_
    refine W_seq ?_
    refine W_seq ?_
    refine W_region ?_
    refine WL_q rfl (ev_move rfl) ?_
    refine WL_nil ?_
    refine thenE_n ?_
    refine W_cond rfl (fun hgc36 => ?_) (fun hgc36 => ?_)
    · refine W_seq ?_
      refine W_region ?_
      refine WL_q rfl (ev_move rfl) ?_
      refine WL_q rfl (ev_move rfl) ?_
      refine WL_q rfl (ev_assign rfl) ?_
      refine WL_q rfl (ev_assign rfl) ?_
      refine WL_q rfl (ev_assign rfl) ?_
      refine WL_nil ?_
      refine thenE_n ?_
      refine W_ret ?_
      refine thenE_r ?_
      refine blockE_r ?_
      refine thenE_r ?_
      refine thenE_r ?_
      refine blockE_r ?_
      refine ret3 rfl rfl rfl rfl ?_
      first | (exact ⟨_, _, _, _, _, rfl, .last (by omega) hn9 hJ, hE⟩) | (exact ⟨_, _, _, _, _, rfl, .same hp49 hn9 hJ, hE⟩) | (exact ⟨_, _, _, _, _, rfl, .at hf hin0 hi' (hltd_full hgc36 (by omega)) hJ, hE⟩)
    · refine W_skip ?_
      refine thenE_n ?_
      refine W_seq ?_
      refine W_region ?_
      refine WL_q rfl (ev_loads st36 sz36 rfl (cellsB hB3) rfl) ?_
      refine WL_q rfl (ev_loads st40 sz40 rfl (cellsB hB4) rfl) ?_
      refine WL_q rfl (ev_move rfl) ?_
      have hn9 : hltd m (stN m A i) = false := hltd_full hgc36 (by omega)
      have hs9 := stepS_len m A (stN m A i)
      refine WL_m rfl (ev_call rfl (maStep_spec _ m _ A _ _ (stN m A i) _ hm (by omega) (by omega) hA (by omega) (by omega) (own_i hO) (by omega) (by omega) (by assumption) (by assumption))) ?_
      rintro _ w42 ⟨a42, c42, rfl, hO42, hE42⟩
      have hz42 := hE42.size
      replace hE := hE.trans hE42
      replace hRL0 := hRL0.trans hE42
      replace hm := hm.ext hE42
      replace hA := hA.ext hE42
      replace hB3 := hB3.ext hE42
      replace hB4 := hB4.ext hE42
      replace hO17 := hO17.ext hE42
      replace hO := hO.ext hE42
      refine WL_q rfl (ev_assign rfl) ?_
      refine WL_nil ?_
      refine thenE_n ?_
      refine W_seq ?_
      refine W_seq ?_
      refine W_region ?_
      refine WL_q rfl (ev_move rfl) ?_
      refine WL_q rfl (ev_move rfl) ?_
      refine WL_q rfl (ev_eql rfl rfl) ?_
      refine WL_q rfl (ev_move rfl) ?_
      refine WL_splitv (t := 46) rfl (fun hg45 => ?_) (fun hg45 => ?_)
      · have hp45 := of_decide_eq_true hg45
        refine WL_no rfl rfl hg45 rfl ?_
        refine WL_no rfl rfl hg45 rfl ?_
        refine WL_no rfl rfl hg45 rfl ?_
        refine WL_q rfl (ev_pick_t rfl hg45 rfl) ?_
        refine WL_nil ?_
        refine thenE_n ?_
        refine W_cond_t rfl ?_
        refine W_seq ?_
        refine W_region ?_
        refine WL_q rfl (ev_assign rfl) ?_
        refine WL_q rfl (ev_assign rfl) ?_
        refine WL_q rfl (ev_assign rfl) ?_
        refine WL_nil ?_
        refine thenE_n ?_
        refine W_ret ?_
        refine thenE_r ?_
        refine blockE_r ?_
        refine thenE_r ?_
        refine thenE_r ?_
        refine blockE_r ?_
        refine ret3 rfl rfl rfl rfl ?_
        first | (exact ⟨_, _, _, _, _, rfl, .last (by omega) hn9 hJ, hE⟩) | (exact ⟨_, _, _, _, _, rfl, .same hp49 hn9 hJ, hE⟩) | (exact ⟨_, _, _, _, _, rfl, .at hf hin0 hi' (hltd_full hgc36 (by omega)) hJ, hE⟩)
      · have hp45 := of_decide_eq_false hg45
        refine WL_qg rfl rfl hg45 rfl (ev_move rfl) ?_
        refine WL_qg rfl rfl hg45 rfl (ev_move rfl) ?_
        refine WL_mg rfl rfl hg45 rfl (ev_call rfl (l1Same_spec _ _ _ _ (stepS m A (stN m A i)) (stN m A i) _ (own_i hO42) (own_i hO) (by omega))) ?_
        rintro _ w49 ⟨b49, rfl, hb49, hE49⟩
        have hz49 := hE49.size
        replace hE := hE.trans hE49
        replace hRL0 := hRL0.trans hE49
        replace hm := hm.ext hE49
        replace hA := hA.ext hE49
        replace hB3 := hB3.ext hE49
        replace hB4 := hB4.ext hE49
        replace hO17 := hO17.ext hE49
        replace hO := hO.ext hE49
        replace hO42 := hO42.ext hE49
        refine WL_q rfl (ev_pick_f rfl hg45 rfl) ?_
        refine WL_nil ?_
        refine thenE_n ?_
        refine W_cond rfl (fun hg49 => ?_) (fun hg49 => ?_)
        · have hp49 := hb49.1 hg49
          refine W_seq ?_
          refine W_region ?_
          refine WL_q rfl (ev_assign rfl) ?_
          refine WL_q rfl (ev_assign rfl) ?_
          refine WL_q rfl (ev_assign rfl) ?_
          refine WL_nil ?_
          refine thenE_n ?_
          refine W_ret ?_
          refine thenE_r ?_
          refine blockE_r ?_
          refine thenE_r ?_
          refine thenE_r ?_
          refine blockE_r ?_
          refine ret3 rfl rfl rfl rfl ?_
          first | (exact ⟨_, _, _, _, _, rfl, .last (by omega) hn9 hJ, hE⟩) | (exact ⟨_, _, _, _, _, rfl, .same hp49 hn9 hJ, hE⟩) | (exact ⟨_, _, _, _, _, rfl, .at hf hin0 hi' (hltd_full hgc36 (by omega)) hJ, hE⟩)
        · have hp49 := ttN hb49 hg49
          refine W_skip ?_
          refine thenE_n ?_
          refine W_region ?_
          refine WL_q rfl (ev_move rfl) ?_
          refine WL_q rfl (ev_assign rfl) ?_
          refine WL_nil ?_
          refine blockE_n ?_
          refine thenE_n ?_
          refine W_region ?_
          refine WL_q rfl (ev_move rfl) ?_
          refine WL_q rfl (ev_add rfl rfl (by omega)) ?_
          refine WL_q rfl (ev_assign rfl) ?_
          refine WL_nil ?_
          refine thenE_n ?_
          exact ⟨(i + 1, a42, c42), (Subs.c rfl (Subs.c rfl (Subs.c rfl Subs.n))), (Subs.c (lkS rfl (by first | rfl | simp | (simp; omega) | omega)) (Subs.c (lkI rfl (by omega)) Subs.n)), ⟨hRL0, ⟨by omega, hO42.mono (by omega), hl_succ hJ hn9⟩⟩, by first | omega | (dsimp only; omega)⟩

end Go.Proofs.YtebjcbgencenbaaGreat
