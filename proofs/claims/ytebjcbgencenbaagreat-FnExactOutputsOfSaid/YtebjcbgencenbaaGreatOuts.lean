/- Contracts of OutputsOf, of the program and of the reference; the walk of its law. -/
import Derived.Test.YtebjcbgencenbaaGreatHalt2
import Derived.Test.YtebjcbgencenbaaGreatThr
namespace Go.Proofs.YtebjcbgencenbaaGreat
open Go Go.RowKit

/-- The states in which a run halts. -/
def HS (m : Mach) (A : Net) (n x : Int) (S : List Int) (q : Bool) : Prop := HR m A n x q ∧ (q = true → S = stN m A x.toNat ∧ Fits m A) ∧ (q = false → S = [])
theorem HS.stop {m : Mach} {A : Net} {n x : Int} (h : HR m A n x false) : HS m A n x [] false := ⟨h, fun h => (by cases h), fun _ => rfl⟩
theorem HS.go {m : Mach} {A : Net} {n : Int} {i : Nat} (hf : Fits m A) (h : HR m A n (i : Int) true) : HS m A n (i : Int) (stN m A i) true := ⟨h, fun _ => ⟨rfl, hf⟩, fun h => (by cases h)⟩
theorem HS.same {m : Mach} {A : Net} {n x x' : Int} {S S' : List Int} {q q' : Bool} (h : HS m A n x S q) (k : HS m A n x' S' q') : x = x' ∧ S = S' ∧ q = q' := by
  obtain ⟨h1, h2⟩ := h.1.det k.1
  subst h1; subst h2
  refine ⟨rfl, ?_, rfl⟩
  cases q with
  | true => rw [(h.2.1 rfl).1, (k.2.1 rfl).1]
  | false => rw [h.2.2 rfl, k.2.2 rfl]
theorem HS.rng {m : Mach} {A : Net} {n x : Int} {S : List Int} {q : Bool} (h : HS m A n x S q) : S.length ≤ 1048576 ∧ ∀ i (h : i < S.length), 0 ≤ S[i] ∧ S[i].toNat < m.output.length := by
  cases q with
  | false => rw [h.2.2 rfl]; exact ⟨by simp, fun i h => by simp at h⟩
  | true =>
    obtain ⟨rfl, hf⟩ := h.2.1 rfl
    have h1 := hf.2.1.nodes
    refine ⟨by rw [stN_len]; omega, fun i hi => ?_⟩
    have h2 := (stN_ok hf x.toNat).rng hi
    have h3 := hf.1.outLen
    omega
def OR (m : Mach) (A : Net) (n : Int) (ys : List Int) (q : Bool) : Prop := ∃ x S, HS m A n x S q ∧ ys = thr m.output S
theorem OR.det1 {m : Mach} {A : Net} {n : Int} {ys ys' : List Int} {q q' : Bool} (h : OR m A n ys q) (k : OR m A n ys' q') : ys = ys' := by
  obtain ⟨x, S, h1, rfl⟩ := h
  obtain ⟨x', S', k1, rfl⟩ := k
  rw [(h1.same k1).2.1]
theorem OR.det2 {m : Mach} {A : Net} {n : Int} {ys ys' : List Int} {q q' : Bool} (h : OR m A n ys q) (k : OR m A n ys' q') : q = q' := by
  obtain ⟨x, S, h1, rfl⟩ := h
  obtain ⟨x', S', k1, rfl⟩ := k
  exact (h1.same k1).2.2

set_option maxRecDepth 100000 in
theorem haltingStates_all {lom him : Nat} (nm : MA) (m : Mach) {loA hiA : Nat} (nA : NA) (A : Net) (k : Int) (w : World) (hm : IsMach lom him w nm m) (hhim : him ≤ w.heap.size) (hnm : totM m ≤ 1048576) (hA : IsNet loA hiA w nA A) (hhiA : hiA ≤ w.heap.size) (hnA : totN A ≤ 1048576) :
    Fn Tryz.prog 29 #[machV nm m, netV nA A, VI k] w (fun o9 w' => ∃ x a S c q, o9 = .tuple #[VI x, .slice a S.length c, VB q] ∧ HS m A k x S q ∧ Ints w.heap.size w'.heap.size w' a c S ∧ Ext w w') := by
  have hmm : totL m.start + totL m.send + totC m.clauses + m.output.length ≤ 1048576 := hnm
  have hqA := totL_len A.ends
  have hmA : totL A.ends + A.ids.length + A.inputs.length ≤ 1048576 := hnA
  have hs0 := stS_len m A
  have hE := Ext.refl w
  refine Fn_of Tryz.func29 rfl rfl (by kernel_rfl) rfl ?_
  refine W_seq ?_
  refine W_region ?_
  refine WL_m rfl (ev_box rfl) ?_
  rintro _ w3 ⟨rfl, hN3⟩
  have hz3 := hN3.size
  replace hE := hE.trans hN3.ext
  replace hm := hm.ext hN3.ext
  replace hA := hA.ext hN3.ext
  have hB3 : Blk w3 _ _ [_, _, _, _, _, _, _] := hN3.blk
  refine WL_m rfl (ev_box rfl) ?_
  rintro _ w4 ⟨rfl, hN4⟩
  have hz4 := hN4.size
  replace hE := hE.trans hN4.ext
  replace hm := hm.ext hN4.ext
  replace hA := hA.ext hN4.ext
  replace hB3 := hB3.ext hN4.ext
  have hB4 : Blk w4 _ _ [_, _, _] := hN4.blk
  refine WL_q rfl (ev_assign rfl) ?_
  refine WL_q rfl (ev_assign rfl) ?_
  refine WL_q rfl (ev_assign rfl) ?_
  refine WL_nil ?_
  refine thenE_n ?_
  refine W_seq ?_
  refine W_seq ?_
  refine W_region ?_
  refine WL_q rfl (ev_loads st36 sz36 rfl (cellsB hB3) rfl) ?_
  refine WL_q rfl (ev_loads st40 sz40 rfl (cellsB hB4) rfl) ?_
  refine WL_m rfl (ev_call rfl (fits_spec _ m _ A _ hm (by omega) (by omega) hA (by omega) (by omega))) ?_
  rintro _ w13 ⟨b13, rfl, hb13, hE13⟩
  have hz13 := hE13.size
  replace hE := hE.trans hE13
  replace hm := hm.ext hE13
  replace hA := hA.ext hE13
  replace hB3 := hB3.ext hE13
  replace hB4 := hB4.ext hE13
  refine WL_q rfl (ev_not rfl) ?_
  refine WL_q rfl (ev_move rfl) ?_
  refine WL_splitv (t := 15) rfl (fun hg14 => ?_) (fun hg14 => ?_)
  · have hg13 := not_true hg14
    have hp13 := ttN hb13 hg13
    refine WL_no rfl rfl hg14 rfl ?_
    refine WL_no rfl rfl hg14 rfl ?_
    refine WL_no rfl rfl hg14 rfl ?_
    refine WL_q rfl (ev_pick_t rfl hg14 rfl) ?_
    refine WL_nil ?_
    refine thenE_n ?_
    refine W_cond_t rfl ?_
    refine W_seq ?_
    refine W_region ?_
    refine WL_q rfl (ev_assign rfl) ?_
    refine WL_q rfl (ev_assign rfl) ?_
    refine WL_q rfl (ev_assign rfl) ?_
    refine WL_nil ?_
    refine thenE_n ?_
    refine W_ret ?_
    refine thenE_r ?_
    refine ret3 rfl rfl rfl rfl ?_
    first | (exact ⟨_, _, [], _, _, rfl, .stop (.nofit hp13), Ints.nil, hE⟩) | (exact ⟨_, _, [], _, _, rfl, .stop (.noin hg17), Ints.nil, hE⟩) | (exact ⟨_, _, [], _, _, rfl, .stop (.last (by omega) hn9 hJ), Ints.nil, hE⟩) | (exact ⟨_, _, stN m A i, _, _, rfl, .go hp13 (.at hp13 hg17 hi' (hltd_t hg27) hJ), (own_i hO).mono (by omega) (Nat.le_refl _), hE⟩)
  · have hg13 := not_false hg14
    have hp13 := hb13.1 hg13
    refine WL_qg rfl rfl hg14 rfl (ev_move rfl) ?_
    refine WL_mg rfl rfl hg14 rfl (ev_call rfl (within_spec _ _ _ _)) ?_
    rintro _ _ ⟨rfl, rfl⟩
    refine WL_qg rfl rfl hg14 rfl (ev_not rfl) ?_
    refine WL_q rfl (ev_pick_f rfl hg14 rfl) ?_
    refine WL_nil ?_
    refine thenE_n ?_
    refine W_cond rfl (fun hg18 => ?_) (fun hg18 => ?_)
    · have hg17 := not_true hg18
      have hp17 := inR_false.1 hg17
      refine W_seq ?_
      refine W_region ?_
      refine WL_q rfl (ev_assign rfl) ?_
      refine WL_q rfl (ev_assign rfl) ?_
      refine WL_q rfl (ev_assign rfl) ?_
      refine WL_nil ?_
      refine thenE_n ?_
      refine W_ret ?_
      refine thenE_r ?_
      refine ret3 rfl rfl rfl rfl ?_
      first | (exact ⟨_, _, [], _, _, rfl, .stop (.nofit hp13), Ints.nil, hE⟩) | (exact ⟨_, _, [], _, _, rfl, .stop (.noin hg17), Ints.nil, hE⟩) | (exact ⟨_, _, [], _, _, rfl, .stop (.last (by omega) hn9 hJ), Ints.nil, hE⟩) | (exact ⟨_, _, stN m A i, _, _, rfl, .go hp13 (.at hp13 hg17 hi' (hltd_t hg27) hJ), (own_i hO).mono (by omega) (Nat.le_refl _), hE⟩)
    · have hg17 := not_false hg18
      have hp17 := inR_true.1 hg17
      refine W_skip ?_
      refine thenE_n ?_
      refine W_seq ?_
      refine W_region ?_
      refine WL_q rfl (ev_loads st36 sz36 rfl (cellsB hB3) rfl) ?_
      refine WL_q rfl (ev_loads st40 sz40 rfl (cellsB hB4) rfl) ?_
      have hin := inR_true.1 hg17
      have hnd0 := hp13.2.1.nodes
      have hf9 := hp13
      refine WL_m rfl (ev_call rfl (startStates_spec _ m _ A _ hm (by omega) (by omega) hA (by omega) (by omega) (by assumption))) ?_
      rintro _ w22 ⟨a22, c22, rfl, hO22, hE22⟩
      have hz22 := hE22.size
      replace hE := hE.trans hE22
      replace hm := hm.ext hE22
      replace hA := hA.ext hE22
      replace hB3 := hB3.ext hE22
      replace hB4 := hB4.ext hE22
      refine WL_q rfl (ev_assign rfl) ?_
      refine WL_nil ?_
      refine thenE_n ?_
      refine W_seq ?_
      refine W_region ?_
      refine WL_q rfl (ev_assign rfl) ?_
      refine WL_nil ?_
      refine thenE_n ?_
      refine W_block ?_
      refine W_loopC (G := Nat × Option Addr × Nat) [(2, _), (3, _), (4, _)] ((Subs.c rfl (Subs.c rfl (Subs.c rfl Subs.n)))) (fun ⟨i, a, c⟩ => [(9, .slice a (stN m A i).length c), (10, VI (i : Int))]) (fun ⟨i, a, c⟩ w' => Ext w22 w' ∧ (i : Int) ≤ k ∧ Own w.heap.size w' 3 1 a (stN m A i).length c ((stN m A i).map VI) ∧ ∀ j, j < i → hltd m (stN m A j) = false) (fun g => k.toNat + 1 - g.1) (0, _, _) ((Subs.c rfl (Subs.c (lkI rfl (by omega)) Subs.n))) (⟨Ext.refl _, ⟨by omega, hO22.mono (by omega), fun j h => by omega⟩⟩) ?_
      rintro ⟨i, a, c⟩ wL0 ⟨hRL0, hi', hO, hJ⟩
      have hzL0 := hRL0.size
      replace hE := hE.trans hRL0
      replace hm := hm.ext hRL0
      replace hA := hA.ext hRL0
      replace hB3 := hB3.ext hRL0
      replace hB4 := hB4.ext hRL0
      replace hO22 := hO22.ext hRL0
      refine W_seq ?_
      refine W_block ?_
      refine W_seq ?_
      refine W_seq ?_
      refine W_region ?_
      refine WL_q rfl (ev_move rfl) ?_
      refine WL_q rfl (ev_makeFunc rfl rfl) ?_
      have hso := stN_ok (by assumption : Fits m A) i
      have hsl := stN_len m A i
      have hnd := (by assumption : Fits m A).2.1.nodes
      refine WL_m rfl (ev_call rfl (ContainsFunc_int _ _ (stN m A i) _ _ (fun s => decide (m.output.getD s.toNat 0 < 0)) _ (own_i hO) (by omega) (fun u h w1 hw => haltingStates_1 nm m _ _ _ w1 (hB3.ext hw) (hm.output.ext hw) (by have := hso.rng h; have := hf9.1.states; have := hf9.1.outLen; omega)))) ?_
      rintro _ w27 ⟨rfl, hE27⟩
      have hz27 := hE27.size
      replace hE := hE.trans hE27
      replace hRL0 := hRL0.trans hE27
      replace hm := hm.ext hE27
      replace hA := hA.ext hE27
      replace hB3 := hB3.ext hE27
      replace hB4 := hB4.ext hE27
      replace hO22 := hO22.ext hE27
      replace hO := hO.ext hE27
      refine WL_q rfl (ev_not rfl) ?_
      refine WL_nil ?_
      refine thenE_n ?_
      refine W_cond rfl (fun hg28 => ?_) (fun hg28 => ?_)
      · have hg27 := not_true hg28
        refine W_seq ?_
        refine W_region ?_
        refine WL_q rfl (ev_move rfl) ?_
        refine WL_q rfl (ev_move rfl) ?_
        refine WL_q rfl (ev_assign rfl) ?_
        refine WL_q rfl (ev_assign rfl) ?_
        refine WL_q rfl (ev_assign rfl) ?_
        refine WL_nil ?_
        refine thenE_n ?_
        refine W_ret ?_
        refine thenE_r ?_
        refine blockE_r ?_
        refine thenE_r ?_
        refine thenE_r ?_
        refine blockE_r ?_
        refine ret3 rfl rfl rfl rfl ?_
        first | (exact ⟨_, _, [], _, _, rfl, .stop (.nofit hp13), Ints.nil, hE⟩) | (exact ⟨_, _, [], _, _, rfl, .stop (.noin hg17), Ints.nil, hE⟩) | (exact ⟨_, _, [], _, _, rfl, .stop (.last (by omega) hn9 hJ), Ints.nil, hE⟩) | (exact ⟨_, _, stN m A i, _, _, rfl, .go hp13 (.at hp13 hg17 hi' (hltd_t hg27) hJ), (own_i hO).mono (by omega) (Nat.le_refl _), hE⟩)
      · have hg27 := not_false hg28
        refine W_skip ?_
        refine thenE_n ?_
        refine W_seq ?_
        refine W_seq ?_
        refine W_region ?_
        have hn9 := hltd_f hg27
        refine WL_q rfl (ev_move rfl) ?_
        refine WL_q rfl (ev_move rfl) ?_
        refine WL_q rfl (ev_eql rfl rfl) ?_
        refine WL_nil ?_
        refine thenE_n ?_
        refine W_cond rfl (fun hg33 => ?_) (fun hg33 => ?_)
        · have hp33 := of_decide_eq_true hg33
          refine W_seq ?_
          refine W_region ?_
          refine WL_q rfl (ev_assign rfl) ?_
          refine WL_q rfl (ev_assign rfl) ?_
          refine WL_q rfl (ev_assign rfl) ?_
          refine WL_nil ?_
          refine thenE_n ?_
          refine W_ret ?_
          refine thenE_r ?_
          refine blockE_r ?_
          refine thenE_r ?_
          refine thenE_r ?_
          refine blockE_r ?_
          refine ret3 rfl rfl rfl rfl ?_
          first | (exact ⟨_, _, [], _, _, rfl, .stop (.nofit hp13), Ints.nil, hE⟩) | (exact ⟨_, _, [], _, _, rfl, .stop (.noin hg17), Ints.nil, hE⟩) | (exact ⟨_, _, [], _, _, rfl, .stop (.last (by omega) hn9 hJ), Ints.nil, hE⟩) | (exact ⟨_, _, stN m A i, _, _, rfl, .go hp13 (.at hp13 hg17 hi' (hltd_t hg27) hJ), (own_i hO).mono (by omega) (Nat.le_refl _), hE⟩)
        · have hp33 := of_decide_eq_false hg33
          refine W_skip ?_
          refine thenE_n ?_
          refine W_region ?_
          refine WL_q rfl (ev_loads st36 sz36 rfl (cellsB hB3) rfl) ?_
          refine WL_q rfl (ev_loads st40 sz40 rfl (cellsB hB4) rfl) ?_
          refine WL_q rfl (ev_move rfl) ?_
          refine WL_m rfl (ev_call rfl (stepStates_spec _ m _ A _ _ (stN m A i) _ hm (by omega) (by omega) hA (by omega) (by omega) (own_i hO) (by omega) (by omega) (by assumption) (by assumption))) ?_
          rintro _ w37 ⟨a37, c37, rfl, hO37, hE37⟩
          have hz37 := hE37.size
          replace hE := hE.trans hE37
          replace hRL0 := hRL0.trans hE37
          replace hm := hm.ext hE37
          replace hA := hA.ext hE37
          replace hB3 := hB3.ext hE37
          replace hB4 := hB4.ext hE37
          replace hO22 := hO22.ext hE37
          replace hO := hO.ext hE37
          refine WL_q rfl (ev_assign rfl) ?_
          refine WL_nil ?_
          refine blockE_n ?_
          refine thenE_n ?_
          refine W_region ?_
          refine WL_q rfl (ev_move rfl) ?_
          refine WL_q rfl (ev_add rfl rfl (by omega)) ?_
          refine WL_q rfl (ev_assign rfl) ?_
          refine WL_nil ?_
          refine thenE_n ?_
          exact ⟨(i + 1, a37, c37), (Subs.c rfl (Subs.c rfl (Subs.c rfl Subs.n))), (Subs.c (lkS rfl (by first | rfl | simp | (simp; omega) | omega)) (Subs.c (lkI rfl (by omega)) Subs.n)), ⟨hRL0, ⟨by omega, hO37.mono (by omega), hl_succ hJ hn9⟩⟩, by first | omega | (dsimp only; omega)⟩

set_option maxRecDepth 100000 in
theorem maHalt_all {lom him : Nat} (nm : MA) (m : Mach) {loA hiA : Nat} (nA : NA) (A : Net) (k : Int) (w : World) (hm : IsMach lom him w nm m) (hhim : him ≤ w.heap.size) (hnm : totM m ≤ 1048576) (hA : IsNet loA hiA w nA A) (hhiA : hiA ≤ w.heap.size) (hnA : totN A ≤ 1048576) (hf : Fits m A) (hin0 : inR k 0 2000 = true) :
    Fn Tryz.prog 23 #[machV nm m, netV nA A, VI k] w (fun o9 w' => ∃ x a S c q, o9 = .tuple #[.slice a S.length c, VI x, VB q] ∧ HS m A k x S q ∧ Ints w.heap.size w'.heap.size w' a c S ∧ Ext w w') := by
  have hmm : totL m.start + totL m.send + totC m.clauses + m.output.length ≤ 1048576 := hnm
  have hqA := totL_len A.ends
  have hmA : totL A.ends + A.ids.length + A.inputs.length ≤ 1048576 := hnA
  have hs0 := stS_len m A
  have hin := inR_true.1 hin0
  have hnd := hf.2.1.nodes
  have hst := hf.1.states
  have hol := hf.1.outLen
  have hE := Ext.refl w
  refine Fn_of Tryz.func23 rfl rfl (by kernel_rfl) rfl ?_
  refine W_seq ?_
  refine W_region ?_
  refine WL_m rfl (ev_box rfl) ?_
  rintro _ w3 ⟨rfl, hN3⟩
  have hz3 := hN3.size
  replace hE := hE.trans hN3.ext
  replace hm := hm.ext hN3.ext
  replace hA := hA.ext hN3.ext
  have hB3 : Blk w3 _ _ [_, _, _, _, _, _, _] := hN3.blk
  refine WL_m rfl (ev_box rfl) ?_
  rintro _ w4 ⟨rfl, hN4⟩
  have hz4 := hN4.size
  replace hE := hE.trans hN4.ext
  replace hm := hm.ext hN4.ext
  replace hA := hA.ext hN4.ext
  replace hB3 := hB3.ext hN4.ext
  have hB4 : Blk w4 _ _ [_, _, _] := hN4.blk
  refine WL_q rfl (ev_assign rfl) ?_
  refine WL_q rfl (ev_assign rfl) ?_
  refine WL_q rfl (ev_assign rfl) ?_
  refine WL_nil ?_
  refine thenE_n ?_
  refine W_seq ?_
  refine W_region ?_
  refine WL_q rfl (ev_loads st36 sz36 rfl (cellsB hB3) rfl) ?_
  refine WL_q rfl (ev_loads st40 sz40 rfl (cellsB hB4) rfl) ?_
  refine WL_m rfl (ev_call rfl (maStart_spec _ m _ A _ hm (by omega) (by omega) hA (by omega) (by omega) (by assumption))) ?_
  rintro _ w17 ⟨a17, c17, rfl, hO17, hE17⟩
  have hz17 := hE17.size
  replace hE := hE.trans hE17
  replace hm := hm.ext hE17
  replace hA := hA.ext hE17
  replace hB3 := hB3.ext hE17
  replace hB4 := hB4.ext hE17
  refine WL_q rfl (ev_assign rfl) ?_
  refine WL_nil ?_
  refine thenE_n ?_
  refine W_seq ?_
  refine W_region ?_
  refine WL_q rfl (ev_assign rfl) ?_
  refine WL_nil ?_
  refine thenE_n ?_
  refine W_block ?_
  refine W_loopC (G := Nat × Option Addr × Nat) [(2, _), (3, _), (4, _)] ((Subs.c rfl (Subs.c rfl (Subs.c rfl Subs.n)))) (fun ⟨i, a, c⟩ => [(9, .slice a (stN m A i).length c), (10, VI (i : Int))]) (fun ⟨i, a, c⟩ w' => Ext w17 w' ∧ (i : Int) ≤ k ∧ Own w.heap.size w' 3 1 a (stN m A i).length c ((stN m A i).map VI) ∧ ∀ j, j < i → hltd m (stN m A j) = false) (fun g => k.toNat + 1 - g.1) (0, _, _) ((Subs.c rfl (Subs.c (lkI rfl (by omega)) Subs.n))) (⟨Ext.refl _, ⟨by omega, hO17.mono (by omega), fun j h => by omega⟩⟩) ?_
  rintro ⟨i, a, c⟩ wL0 ⟨hRL0, hi', hO, hJ⟩
  have hzL0 := hRL0.size
  replace hE := hE.trans hRL0
  replace hm := hm.ext hRL0
  replace hA := hA.ext hRL0
  replace hB3 := hB3.ext hRL0
  replace hB4 := hB4.ext hRL0
  replace hO17 := hO17.ext hRL0
  refine W_seq ?_
  refine W_block ?_
  refine W_seq ?_
  refine W_region ?_
  refine WL_q rfl (ev_assign rfl) ?_
  refine WL_nil ?_
  refine thenE_n ?_
  refine W_seq ?_
  refine W_seq ?_
  refine W_region ?_
  refine WL_q rfl (ev_move rfl) ?_
  refine WL_q rfl (ev_len Tryz.underlying24 rfl) ?_
  refine WL_q rfl (ev_move rfl) ?_
  refine WL_nil ?_
  refine thenE_n ?_
  refine W_block ?_
  have hso := stN_ok hf i
  have hsl := stN_len m A i
  refine W_loopC (G := Nat) [(2, _), (3, _), (4, _), (9, _), (10, _), (20, _), (21, _)] ((Subs.c rfl (Subs.c rfl (Subs.c rfl (Subs.c rfl (Subs.c rfl (Subs.c rfl (Subs.c rfl Subs.n)))))))) (fun j => [(11, VB (hltd m ((stN m A i).take j))), (22, VI (j : Int))]) (fun j w' => Ext wL0 w' ∧ j ≤ (stN m A i).length) (fun j => (stN m A i).length - j) 0 ((Subs.c rfl (Subs.c (lkI rfl (by omega)) Subs.n))) (⟨Ext.refl _, Nat.zero_le _⟩) ?_
  rintro j wL2 ⟨hRL2, hj'⟩
  have hzL2 := hRL2.size
  replace hE := hE.trans hRL2
  replace hRL0 := hRL0.trans hRL2
  replace hm := hm.ext hRL2
  replace hA := hA.ext hRL2
  replace hB3 := hB3.ext hRL2
  replace hB4 := hB4.ext hRL2
  replace hO17 := hO17.ext hRL2
  replace hO := hO.ext hRL2
  refine W_seq ?_
  refine W_region ?_
  refine WL_q rfl (ev_lss rfl rfl) ?_
  refine WL_nil ?_
  refine thenE_n ?_
  refine W_seq ?_
  refine W_cond rfl (fun hg23 => ?_) (fun hg23 => ?_)
  · have hp23 := of_decide_eq_true hg23
    refine W_skip ?_
    refine thenE_n ?_
    refine W_seq ?_
    refine W_block ?_
    refine W_seq ?_
    refine W_region ?_
    have hlt2 : j < (stN m A i).length := by omega
    have hrj := hso.rng hlt2
    refine WL_q rfl (ev_indexAddr Tryz.underlying24 sz3 rfl rfl ((own_i hO).isSome (by omega)) (by omega) (by omega)) ?_
    refine WL_q rfl (ev_load one3 rfl ((own_i hO).cell (i := j) (by omega))) ?_
    refine WL_q rfl (ev_assign rfl) ?_
    refine WL_nil ?_
    refine thenE_n ?_
    refine W_region ?_
    refine WL_q rfl (ev_move rfl) ?_
    refine WL_q rfl (ev_move rfl) ?_
    refine WL_splitv (t := 27) rfl (fun hg27 => ?_) (fun hg27 => ?_)
    · refine WL_qg rfl rfl hg27 rfl (ev_fieldAddr fo36_6 rfl) ?_
      refine WL_qg rfl rfl hg27 rfl (ev_load one24 rfl (hB3.cell rfl)) ?_
      refine WL_qg rfl rfl hg27 rfl (ev_move rfl) ?_
      refine WL_qg rfl rfl hg27 rfl (ev_indexAddr Tryz.underlying24 sz3 rfl rfl (hm.output.isSome (by omega)) (by omega) (by omega)) ?_
      refine WL_qg rfl rfl hg27 rfl (ev_load one3 rfl (hm.output.cell (i := ((stN m A i)[j]).toNat) (by omega))) ?_
      refine WL_qg rfl rfl hg27 rfl (ev_geq rfl rfl) ?_
      refine WL_q rfl (ev_pick_t rfl hg27 rfl) ?_
      refine WL_q rfl (ev_assign rfl) ?_
      refine WL_nil ?_
      refine blockE_n ?_
      refine thenE_n ?_
      refine W_region ?_
      refine WL_q rfl (ev_add rfl rfl (by omega)) ?_
      refine WL_q rfl (ev_move rfl) ?_
      refine WL_nil ?_
      refine thenE_n ?_
      exact ⟨j + 1, (Subs.c rfl (Subs.c rfl (Subs.c rfl (Subs.c rfl (Subs.c rfl (Subs.c rfl (Subs.c rfl Subs.n))))))), (Subs.c (lkB rfl (hltd_succ hg27 hlt2 (by omega))) (Subs.c (lkI rfl (by omega)) Subs.n)), ⟨hRL2, by omega⟩, by first | omega | (dsimp only; omega)⟩
    · refine WL_no rfl rfl hg27 rfl ?_
      refine WL_no rfl rfl hg27 rfl ?_
      refine WL_no rfl rfl hg27 rfl ?_
      refine WL_no rfl rfl hg27 rfl ?_
      refine WL_no rfl rfl hg27 rfl ?_
      refine WL_no rfl rfl hg27 rfl ?_
      refine WL_q rfl (ev_pick_f rfl hg27 rfl) ?_
      refine WL_q rfl (ev_assign rfl) ?_
      refine WL_nil ?_
      refine blockE_n ?_
      refine thenE_n ?_
      refine W_region ?_
      refine WL_q rfl (ev_add rfl rfl (by omega)) ?_
      refine WL_q rfl (ev_move rfl) ?_
      refine WL_nil ?_
      refine thenE_n ?_
      exact ⟨j + 1, (Subs.c rfl (Subs.c rfl (Subs.c rfl (Subs.c rfl (Subs.c rfl (Subs.c rfl (Subs.c rfl Subs.n))))))), (Subs.c (lkB rfl (hltd_stay hg27 hlt2)) (Subs.c (lkI rfl (by omega)) Subs.n)), ⟨hRL2, by omega⟩, by first | omega | (dsimp only; omega)⟩
  · have hp23 := of_decide_eq_false hg23
    refine W_exit ?_
    refine thenE_x ?_
    refine thenE_x ?_
    refine blockE_hit ?_
    refine thenE_n ?_
    refine W_seq ?_
    refine W_seq ?_
    refine W_region ?_
    refine WL_q rfl (ev_move rfl) ?_
    refine WL_nil ?_
    refine thenE_n ?_
    refine W_cond rfl (fun hgc36 => ?_) (fun hgc36 => ?_)
    · refine W_seq ?_
      refine W_region ?_
      refine WL_q rfl (ev_move rfl) ?_
      refine WL_q rfl (ev_move rfl) ?_
      refine WL_q rfl (ev_assign rfl) ?_
      refine WL_q rfl (ev_assign rfl) ?_
      refine WL_q rfl (ev_assign rfl) ?_
      refine WL_nil ?_
      refine thenE_n ?_
      refine W_ret ?_
      refine thenE_r ?_
      refine blockE_r ?_
      refine thenE_r ?_
      refine thenE_r ?_
      refine blockE_r ?_
      refine ret3 rfl rfl rfl rfl ?_
      first | (exact ⟨_, _, [], _, _, rfl, .stop (.last (by omega) hn9 hJ), Ints.nil, hE⟩) | (exact ⟨_, _, [], _, _, rfl, .stop (.same hp49 hn9 hJ), Ints.nil, hE⟩) | (exact ⟨_, _, stN m A i, _, _, rfl, .go hf (.at hf hin0 hi' (hltd_full hgc36 (by omega)) hJ), (own_i hO).mono (by omega) (Nat.le_refl _), hE⟩)
    · refine W_skip ?_
      refine thenE_n ?_
      refine W_seq ?_
      refine W_region ?_
      refine WL_q rfl (ev_loads st36 sz36 rfl (cellsB hB3) rfl) ?_
      refine WL_q rfl (ev_loads st40 sz40 rfl (cellsB hB4) rfl) ?_
      refine WL_q rfl (ev_move rfl) ?_
      have hn9 : hltd m (stN m A i) = false := hltd_full hgc36 (by omega)
      have hs9 := stepS_len m A (stN m A i)
      refine WL_m rfl (ev_call rfl (maStep_spec _ m _ A _ _ (stN m A i) _ hm (by omega) (by omega) hA (by omega) (by omega) (own_i hO) (by omega) (by omega) (by assumption) (by assumption))) ?_
      rintro _ w42 ⟨a42, c42, rfl, hO42, hE42⟩
      have hz42 := hE42.size
      replace hE := hE.trans hE42
      replace hRL0 := hRL0.trans hE42
      replace hm := hm.ext hE42
      replace hA := hA.ext hE42
      replace hB3 := hB3.ext hE42
      replace hB4 := hB4.ext hE42
      replace hO17 := hO17.ext hE42
      replace hO := hO.ext hE42
      refine WL_q rfl (ev_assign rfl) ?_
      refine WL_nil ?_
      refine thenE_n ?_
      refine W_seq ?_
      refine W_seq ?_
      refine W_region ?_
      refine WL_q rfl (ev_move rfl) ?_
      refine WL_q rfl (ev_move rfl) ?_
      refine WL_q rfl (ev_eql rfl rfl) ?_
      refine WL_q rfl (ev_move rfl) ?_
      refine WL_splitv (t := 46) rfl (fun hg45 => ?_) (fun hg45 => ?_)
      · have hp45 := of_decide_eq_true hg45
        refine WL_no rfl rfl hg45 rfl ?_
        refine WL_no rfl rfl hg45 rfl ?_
        refine WL_no rfl rfl hg45 rfl ?_
        refine WL_q rfl (ev_pick_t rfl hg45 rfl) ?_
        refine WL_nil ?_
        refine thenE_n ?_
        refine W_cond_t rfl ?_
        refine W_seq ?_
        refine W_region ?_
        refine WL_q rfl (ev_assign rfl) ?_
        refine WL_q rfl (ev_assign rfl) ?_
        refine WL_q rfl (ev_assign rfl) ?_
        refine WL_nil ?_
        refine thenE_n ?_
        refine W_ret ?_
        refine thenE_r ?_
        refine blockE_r ?_
        refine thenE_r ?_
        refine thenE_r ?_
        refine blockE_r ?_
        refine ret3 rfl rfl rfl rfl ?_
        first | (exact ⟨_, _, [], _, _, rfl, .stop (.last (by omega) hn9 hJ), Ints.nil, hE⟩) | (exact ⟨_, _, [], _, _, rfl, .stop (.same hp49 hn9 hJ), Ints.nil, hE⟩) | (exact ⟨_, _, stN m A i, _, _, rfl, .go hf (.at hf hin0 hi' (hltd_full hgc36 (by omega)) hJ), (own_i hO).mono (by omega) (Nat.le_refl _), hE⟩)
      · have hp45 := of_decide_eq_false hg45
        refine WL_qg rfl rfl hg45 rfl (ev_move rfl) ?_
        refine WL_qg rfl rfl hg45 rfl (ev_move rfl) ?_
        refine WL_mg rfl rfl hg45 rfl (ev_call rfl (l1Same_spec _ _ _ _ (stepS m A (stN m A i)) (stN m A i) _ (own_i hO42) (own_i hO) (by omega))) ?_
        rintro _ w49 ⟨b49, rfl, hb49, hE49⟩
        have hz49 := hE49.size
        replace hE := hE.trans hE49
        replace hRL0 := hRL0.trans hE49
        replace hm := hm.ext hE49
        replace hA := hA.ext hE49
        replace hB3 := hB3.ext hE49
        replace hB4 := hB4.ext hE49
        replace hO17 := hO17.ext hE49
        replace hO := hO.ext hE49
        replace hO42 := hO42.ext hE49
        refine WL_q rfl (ev_pick_f rfl hg45 rfl) ?_
        refine WL_nil ?_
        refine thenE_n ?_
        refine W_cond rfl (fun hg49 => ?_) (fun hg49 => ?_)
        · have hp49 := hb49.1 hg49
          refine W_seq ?_
          refine W_region ?_
          refine WL_q rfl (ev_assign rfl) ?_
          refine WL_q rfl (ev_assign rfl) ?_
          refine WL_q rfl (ev_assign rfl) ?_
          refine WL_nil ?_
          refine thenE_n ?_
          refine W_ret ?_
          refine thenE_r ?_
          refine blockE_r ?_
          refine thenE_r ?_
          refine thenE_r ?_
          refine blockE_r ?_
          refine ret3 rfl rfl rfl rfl ?_
          first | (exact ⟨_, _, [], _, _, rfl, .stop (.last (by omega) hn9 hJ), Ints.nil, hE⟩) | (exact ⟨_, _, [], _, _, rfl, .stop (.same hp49 hn9 hJ), Ints.nil, hE⟩) | (exact ⟨_, _, stN m A i, _, _, rfl, .go hf (.at hf hin0 hi' (hltd_full hgc36 (by omega)) hJ), (own_i hO).mono (by omega) (Nat.le_refl _), hE⟩)
        · have hp49 := ttN hb49 hg49
          refine W_skip ?_
          refine thenE_n ?_
          refine W_region ?_
          refine WL_q rfl (ev_move rfl) ?_
          refine WL_q rfl (ev_assign rfl) ?_
          refine WL_nil ?_
          refine blockE_n ?_
          refine thenE_n ?_
          refine W_region ?_
          refine WL_q rfl (ev_move rfl) ?_
          refine WL_q rfl (ev_add rfl rfl (by omega)) ?_
          refine WL_q rfl (ev_assign rfl) ?_
          refine WL_nil ?_
          refine thenE_n ?_
          exact ⟨(i + 1, a42, c42), (Subs.c rfl (Subs.c rfl (Subs.c rfl Subs.n))), (Subs.c (lkS rfl (by first | rfl | simp | (simp; omega) | omega)) (Subs.c (lkI rfl (by omega)) Subs.n)), ⟨hRL0, ⟨by omega, hO42.mono (by omega), hl_succ hJ hn9⟩⟩, by first | omega | (dsimp only; omega)⟩

set_option maxRecDepth 100000 in
theorem OutputsOf_spec {lom him : Nat} (nm : MA) (m : Mach) {loA hiA : Nat} (nA : NA) (A : Net) (k : Int) (w : World) (hm : IsMach lom him w nm m) (hhim : him ≤ w.heap.size) (hnm : totM m ≤ 1048576) (hA : IsNet loA hiA w nA A) (hhiA : hiA ≤ w.heap.size) (hnA : totN A ≤ 1048576) :
    Fn Tryz.prog 9 #[machV nm m, netV nA A, VI k] w (fun o9 w' => ∃ a' c' ys q, o9 = .tuple #[.slice a' ys.length c', VB q] ∧ OR m A k ys q ∧ OwnH w.heap.size w'.heap.size 0 0 w' 3 1 a' ys.length c' (ys.map VI) ∧ ys.length ≤ 1048576 ∧ Ext w w') := by
  have hmm : totL m.start + totL m.send + totC m.clauses + m.output.length ≤ 1048576 := hnm
  have hqA := totL_len A.ends
  have hmA : totL A.ends + A.ids.length + A.inputs.length ≤ 1048576 := hnA
  have hE := Ext.refl w
  refine Fn_of Tryz.func9 rfl rfl (by kernel_rfl) rfl ?_
  refine W_seq ?_
  refine W_region ?_
  refine WL_m rfl (ev_box rfl) ?_
  rintro _ w3 ⟨rfl, hN3⟩
  have hz3 := hN3.size
  replace hE := hE.trans hN3.ext
  replace hm := hm.ext hN3.ext
  replace hA := hA.ext hN3.ext
  have hB3 : Blk w3 _ _ [_, _, _, _, _, _, _] := hN3.blk
  refine WL_m rfl (ev_box rfl) ?_
  rintro _ w4 ⟨rfl, hN4⟩
  have hz4 := hN4.size
  replace hE := hE.trans hN4.ext
  replace hm := hm.ext hN4.ext
  replace hA := hA.ext hN4.ext
  replace hB3 := hB3.ext hN4.ext
  have hB4 : Blk w4 _ _ [_, _, _] := hN4.blk
  refine WL_q rfl (ev_assign rfl) ?_
  refine WL_q rfl (ev_assign rfl) ?_
  refine WL_nil ?_
  refine thenE_n ?_
  refine W_seq ?_
  refine W_region ?_
  refine WL_q rfl (ev_loads st36 sz36 rfl (cellsB hB3) rfl) ?_
  refine WL_q rfl (ev_loads st40 sz40 rfl (cellsB hB4) rfl) ?_
  refine WL_q rfl (ev_move rfl) ?_
  refine WL_m rfl (ev_call rfl (haltingStates_all _ m _ A _ _ hm (by omega) (by omega) hA (by omega) (by omega))) ?_
  rintro _ w18 ⟨x18, a18, S18, c18, q18, rfl, hr18, hI18, hE18⟩
  have hz18 := hE18.size
  replace hE := hE.trans hE18
  replace hm := hm.ext hE18
  replace hA := hA.ext hE18
  replace hB3 := hB3.ext hE18
  replace hB4 := hB4.ext hE18
  have hrr := hr18.rng
  have htl := thr_len m.output S18
  refine WL_q rfl (ev_move rfl) ?_
  refine WL_q rfl (ev_extract rfl rfl) ?_
  refine WL_q rfl (ev_extract rfl rfl) ?_
  refine WL_q rfl (ev_extract rfl rfl) ?_
  refine WL_q rfl (ev_assign rfl) ?_
  refine WL_q rfl (ev_assign rfl) ?_
  refine WL_q rfl (ev_assign rfl) ?_
  refine WL_nil ?_
  refine thenE_n ?_
  refine W_seq ?_
  refine W_region ?_
  refine WL_q rfl (ev_assign rfl) ?_
  refine WL_nil ?_
  refine thenE_n ?_
  refine W_seq ?_
  refine W_seq ?_
  refine W_region ?_
  refine WL_q rfl (ev_move rfl) ?_
  refine WL_q rfl (ev_len Tryz.underlying24 rfl) ?_
  refine WL_q rfl (ev_move rfl) ?_
  refine WL_nil ?_
  refine thenE_n ?_
  refine W_block ?_
  refine W_loopC (G := Nat × Option Addr × Nat) [(3, _), (10, _), (22, _), (23, _)] ((Subs.c rfl (Subs.c rfl (Subs.c rfl (Subs.c rfl Subs.n))))) (fun ⟨i, a, c⟩ => [(11, .slice a i c), (24, VI (i : Int))]) (fun ⟨i, a, c⟩ w' => Ext w18 w' ∧ i ≤ S18.length ∧ OwnH w18.heap.size w'.heap.size 0 0 w' 3 1 a i c (((thr m.output S18).take i).map VI)) (fun g => S18.length - g.1) (0, none, 0) ((Subs.c rfl (Subs.c (lkI rfl (by omega)) Subs.n))) (⟨Ext.refl _, ⟨by omega, OwnH.nil⟩⟩) ?_
  rintro ⟨i, a, c⟩ wL0 ⟨hRL0, hi', hO⟩
  have hzL0 := hRL0.size
  replace hE := hE.trans hRL0
  replace hm := hm.ext hRL0
  replace hA := hA.ext hRL0
  replace hB3 := hB3.ext hRL0
  replace hB4 := hB4.ext hRL0
  replace hI18 := hI18.ext hRL0
  refine W_seq ?_
  refine W_region ?_
  refine WL_q rfl (ev_lss rfl rfl) ?_
  refine WL_nil ?_
  refine thenE_n ?_
  refine W_seq ?_
  refine W_cond rfl (fun hg25 => ?_) (fun hg25 => ?_)
  · have hp25 := of_decide_eq_true hg25
    refine W_skip ?_
    refine thenE_n ?_
    refine W_seq ?_
    refine W_block ?_
    refine W_seq ?_
    refine W_region ?_
    have hlt : i < S18.length := by omega
    have hri := hrr.2 i hlt
    refine WL_q rfl (ev_indexAddr Tryz.underlying24 sz3 rfl rfl (hI18.isSome (by omega)) (by omega) (by omega)) ?_
    refine WL_q rfl (ev_load one3 rfl (hI18.cell (i := i) (by omega))) ?_
    refine WL_q rfl (ev_assign rfl) ?_
    refine WL_nil ?_
    refine thenE_n ?_
    refine W_region ?_
    refine WL_q rfl (ev_move rfl) ?_
    refine WL_q rfl (ev_fieldAddr fo36_6 rfl) ?_
    refine WL_q rfl (ev_load one24 rfl (hB3.cell rfl)) ?_
    refine WL_q rfl (ev_move rfl) ?_
    refine WL_q rfl (ev_indexAddr Tryz.underlying24 sz3 rfl rfl (hm.output.isSome (by omega)) (by omega) (by omega)) ?_
    refine WL_q rfl (ev_load one3 rfl (hm.output.cell (i := S18[i].toNat) (by omega))) ?_
    refine WL_m rfl (ev_lit1 Tryz.underlying24 el3 (by decide) (by decide) rfl rfl) ?_
    rintro _ w34 ⟨rfl, hN34⟩
    have hz34 := hN34.size
    replace hE := hE.trans hN34.ext
    replace hRL0 := hRL0.trans hN34.ext
    replace hm := hm.ext hN34.ext
    replace hA := hA.ext hN34.ext
    replace hB3 := hB3.ext hN34.ext
    replace hB4 := hB4.ext hN34.ext
    replace hI18 := hI18.ext hN34.ext
    replace hO := hO.ext hN34.ext
    have hB34 := hN34.blk
    refine WL_m rfl (ev_appendT Tryz.underlying24 el3 rfl (by decide) rfl rfl hO (SAt.of_blk (cs := [_]) (ds := []) hB34) rfl (by simp [Value.oneCell']) (by omega) (by unfold maxLen; omega) (by omega)) ?_
    rintro _ w35 ⟨a35, c35, rfl, hO35, hK35, hQ35⟩
    have hz35 := hK35.size
    replace hE := hE.rg hK35 (by omega)
    replace hRL0 := hRL0.rg hK35 (by omega)
    replace hm := hm.rg hK35 (by omega)
    replace hA := hA.rg hK35 (by omega)
    replace hB3 := hB3.rg hK35 (by omega)
    replace hB4 := hB4.rg hK35 (by omega)
    replace hI18 := hI18.rg hK35 (by omega)
    replace hB34 := hB34.rg hK35 (by omega)
    replace hO := hO35
    replace hO := ownt_snocI hO
    refine WL_q rfl (ev_assign rfl) ?_
    refine WL_nil ?_
    refine blockE_n ?_
    refine thenE_n ?_
    refine W_region ?_
    refine WL_q rfl (ev_add rfl rfl (by omega)) ?_
    refine WL_q rfl (ev_move rfl) ?_
    refine WL_nil ?_
    refine thenE_n ?_
    exact ⟨(i + 1, a35, c35), (Subs.c rfl (Subs.c rfl (Subs.c rfl (Subs.c rfl Subs.n)))), (Subs.c rfl (Subs.c (lkI rfl (by omega)) Subs.n)), ⟨hRL0, ⟨by omega, (ownt_take hO (by omega) (thr_at hlt (h2 := by omega) (by omega))).up (Nat.le_refl _) (by omega)⟩⟩, by first | omega | (dsimp only; omega)⟩
  · have hp25 := of_decide_eq_false hg25
    refine W_exit ?_
    refine thenE_x ?_
    refine thenE_x ?_
    refine blockE_hit ?_
    refine thenE_n ?_
    refine W_seq ?_
    refine W_region ?_
    refine WL_q rfl (ev_move rfl) ?_
    refine WL_q rfl (ev_move rfl) ?_
    refine WL_q rfl (ev_assign rfl) ?_
    refine WL_q rfl (ev_assign rfl) ?_
    refine WL_nil ?_
    refine thenE_n ?_
    refine W_ret ?_
    refine ret2 rfl rfl rfl ?_
    have hi9 : i = (thr m.output S18).length := by omega
    subst hi9
    exact ⟨_, _, _, _, rfl, ⟨_, _, hr18, rfl⟩, by rw [List.take_length] at hO; exact hO.up (by omega) (Nat.le_refl _), by omega, hE⟩

set_option maxRecDepth 100000 in
theorem sOutputsOf_spec {lom him : Nat} (nm : MA) (m : Mach) {loA hiA : Nat} (nA : NA) (A : Net) (k : Int) (w : World) (hm : IsMach lom him w nm m) (hhim : him ≤ w.heap.size) (hnm : totM m ≤ 1048576) (hA : IsNet loA hiA w nA A) (hhiA : hiA ≤ w.heap.size) (hnA : totN A ≤ 1048576) :
    Fn Tryz.prog 6 #[machV nm m, netV nA A, VI k] w (fun o9 w' => ∃ a' c' ys q, o9 = .tuple #[.slice a' ys.length c', VB q] ∧ OR m A k ys q ∧ Ints 0 w'.heap.size w' a' c' ys ∧ ys.length ≤ 1048576 ∧ Ext w w') := by
  have hmm : totL m.start + totL m.send + totC m.clauses + m.output.length ≤ 1048576 := hnm
  have hqA := totL_len A.ends
  have hmA : totL A.ends + A.ids.length + A.inputs.length ≤ 1048576 := hnA
  have hE := Ext.refl w
  refine Fn_of Tryz.func6 rfl rfl (by kernel_rfl) rfl ?_
  refine W_seq ?_
  refine W_region ?_
  refine WL_m rfl (ev_box rfl) ?_
  rintro _ w3 ⟨rfl, hN3⟩
  have hz3 := hN3.size
  replace hE := hE.trans hN3.ext
  replace hm := hm.ext hN3.ext
  replace hA := hA.ext hN3.ext
  have hB3 : Blk w3 _ _ [_, _, _, _, _, _, _] := hN3.blk
  refine WL_m rfl (ev_box rfl) ?_
  rintro _ w4 ⟨rfl, hN4⟩
  have hz4 := hN4.size
  replace hE := hE.trans hN4.ext
  replace hm := hm.ext hN4.ext
  replace hA := hA.ext hN4.ext
  replace hB3 := hB3.ext hN4.ext
  have hB4 : Blk w4 _ _ [_, _, _] := hN4.blk
  refine WL_q rfl (ev_assign rfl) ?_
  refine WL_q rfl (ev_assign rfl) ?_
  refine WL_nil ?_
  refine thenE_n ?_
  refine W_seq ?_
  refine W_seq ?_
  refine W_region ?_
  refine WL_q rfl (ev_loads st36 sz36 rfl (cellsB hB3) rfl) ?_
  refine WL_q rfl (ev_loads st40 sz40 rfl (cellsB hB4) rfl) ?_
  refine WL_m rfl (ev_call rfl (maAsked_spec _ m _ A _ hm (by omega) (by omega) hA (by omega) (by omega))) ?_
  rintro _ w13 ⟨b13, rfl, hb13, hE13⟩
  have hz13 := hE13.size
  replace hE := hE.trans hE13
  replace hm := hm.ext hE13
  replace hA := hA.ext hE13
  replace hB3 := hB3.ext hE13
  replace hB4 := hB4.ext hE13
  refine WL_q rfl (ev_not rfl) ?_
  refine WL_q rfl (ev_move rfl) ?_
  refine WL_splitv (t := 15) rfl (fun hg14 => ?_) (fun hg14 => ?_)
  · have hg13 := not_true hg14
    have hp13 := ttN hb13 hg13
    refine WL_no rfl rfl hg14 rfl ?_
    refine WL_no rfl rfl hg14 rfl ?_
    refine WL_no rfl rfl hg14 rfl ?_
    refine WL_q rfl (ev_pick_t rfl hg14 rfl) ?_
    refine WL_nil ?_
    refine thenE_n ?_
    refine W_cond_t rfl ?_
    refine W_seq ?_
    refine W_region ?_
    refine WL_q rfl (ev_assign rfl) ?_
    refine WL_q rfl (ev_assign rfl) ?_
    refine WL_nil ?_
    refine thenE_n ?_
    refine W_ret ?_
    refine thenE_r ?_
    refine ret2 rfl rfl rfl ?_
    first | (exact ⟨none, 0, [], _, rfl, ⟨_, _, .stop (.nofit hp13), rfl⟩, Ints.nil, by simp, hE⟩) | (exact ⟨none, 0, [], _, rfl, ⟨_, _, .stop (.noin hg17), rfl⟩, Ints.nil, by simp, hE⟩) | (exact ⟨_, _, _, _, rfl, ⟨_, _, hr24, rfl⟩, (own_i hO31).mono (Nat.zero_le _) (Nat.le_refl _), by omega, hE⟩)
  · have hg13 := not_false hg14
    have hp13 := hb13.1 hg13
    refine WL_qg rfl rfl hg14 rfl (ev_move rfl) ?_
    refine WL_mg rfl rfl hg14 rfl (ev_call rfl (maLong_spec _ _)) ?_
    rintro _ w17 ⟨rfl, hE17⟩
    have hz17 := hE17.size
    replace hE := hE.trans hE17
    replace hm := hm.ext hE17
    replace hA := hA.ext hE17
    replace hB3 := hB3.ext hE17
    replace hB4 := hB4.ext hE17
    refine WL_qg rfl rfl hg14 rfl (ev_not rfl) ?_
    refine WL_q rfl (ev_pick_f rfl hg14 rfl) ?_
    refine WL_nil ?_
    refine thenE_n ?_
    refine W_cond rfl (fun hg18 => ?_) (fun hg18 => ?_)
    · have hg17 := not_true hg18
      refine W_seq ?_
      refine W_region ?_
      refine WL_q rfl (ev_assign rfl) ?_
      refine WL_q rfl (ev_assign rfl) ?_
      refine WL_nil ?_
      refine thenE_n ?_
      refine W_ret ?_
      refine thenE_r ?_
      refine ret2 rfl rfl rfl ?_
      first | (exact ⟨none, 0, [], _, rfl, ⟨_, _, .stop (.nofit hp13), rfl⟩, Ints.nil, by simp, hE⟩) | (exact ⟨none, 0, [], _, rfl, ⟨_, _, .stop (.noin hg17), rfl⟩, Ints.nil, by simp, hE⟩) | (exact ⟨_, _, _, _, rfl, ⟨_, _, hr24, rfl⟩, (own_i hO31).mono (Nat.zero_le _) (Nat.le_refl _), by omega, hE⟩)
    · have hg17 := not_false hg18
      refine W_skip ?_
      refine thenE_n ?_
      refine W_seq ?_
      refine W_region ?_
      refine WL_q rfl (ev_loads st36 sz36 rfl (cellsB hB3) rfl) ?_
      refine WL_q rfl (ev_loads st40 sz40 rfl (cellsB hB4) rfl) ?_
      refine WL_q rfl (ev_move rfl) ?_
      refine WL_m rfl (ev_call rfl (maHalt_all _ m _ A _ _ hm (by omega) (by omega) hA (by omega) (by omega) (by assumption) (by assumption))) ?_
      rintro _ w24 ⟨x24, a24, S24, c24, q24, rfl, hr24, hI24, hE24⟩
      have hz24 := hE24.size
      replace hE := hE.trans hE24
      replace hm := hm.ext hE24
      replace hA := hA.ext hE24
      replace hB3 := hB3.ext hE24
      replace hB4 := hB4.ext hE24
      have hrr := hr24.rng
      have htl := thr_len m.output S24
      have hr9 := hrr.2
      refine WL_q rfl (ev_move rfl) ?_
      refine WL_q rfl (ev_extract rfl rfl) ?_
      refine WL_q rfl (ev_extract rfl rfl) ?_
      refine WL_q rfl (ev_extract rfl rfl) ?_
      refine WL_q rfl (ev_assign rfl) ?_
      refine WL_q rfl (ev_assign rfl) ?_
      refine WL_q rfl (ev_assign rfl) ?_
      refine WL_nil ?_
      refine thenE_n ?_
      refine W_seq ?_
      refine W_region ?_
      refine WL_q rfl (ev_fieldAddr fo36_6 rfl) ?_
      refine WL_q rfl (ev_load one24 rfl (hB3.cell rfl)) ?_
      refine WL_q rfl (ev_move rfl) ?_
      refine WL_m rfl (ev_call rfl (coThrough_spec _ _ m.output _ _ S24 _ hm.output (by omega) (by omega) hI24 (by omega) (by omega) (by assumption))) ?_
      rintro _ w31 ⟨a31, c31, rfl, hO31, hE31⟩
      have hz31 := hE31.size
      replace hE := hE.trans hE31
      replace hm := hm.ext hE31
      replace hA := hA.ext hE31
      replace hB3 := hB3.ext hE31
      replace hB4 := hB4.ext hE31
      replace hI24 := hI24.ext hE31
      refine WL_q rfl (ev_move rfl) ?_
      refine WL_q rfl (ev_assign rfl) ?_
      refine WL_q rfl (ev_assign rfl) ?_
      refine WL_nil ?_
      refine thenE_n ?_
      refine W_ret ?_
      refine ret2 rfl rfl rfl ?_
      first | (exact ⟨none, 0, [], _, rfl, ⟨_, _, .stop (.nofit hp13), rfl⟩, Ints.nil, by simp, hE⟩) | (exact ⟨none, 0, [], _, rfl, ⟨_, _, .stop (.noin hg17), rfl⟩, Ints.nil, by simp, hE⟩) | (exact ⟨_, _, _, _, rfl, ⟨_, _, hr24, rfl⟩, (own_i hO31).mono (Nat.zero_le _) (Nat.le_refl _), by omega, hE⟩)

set_option maxRecDepth 100000 in
theorem law_OutputsOf (nm : MA) (m : Mach) (nA : NA) (A : Net) (k : Int) (w : World) (hm : IsMach 0 w.heap.size w nm m) (hsm : SmM m) (hA : IsNet 0 w.heap.size w nA A) (hsA : SmN A) (hik : I64 k) :
    Fn Tryz.prog 3 #[machV nm m, netV nA A, VI k] w (fun v w' => v = VB true ∧ Ext w w') := by
  have hE := Ext.refl w
  refine Fn_of Tryz.func3 rfl rfl (by kernel_rfl) rfl ?_
  refine W_seq ?_
  refine W_region ?_
  refine WL_m rfl (ev_box rfl) ?_
  rintro _ w3 ⟨rfl, hN3⟩
  have hz3 := hN3.size
  replace hE := hE.trans hN3.ext
  replace hm := hm.ext hN3.ext
  replace hA := hA.ext hN3.ext
  have hB3 : Blk w3 _ _ [_, _, _, _, _, _, _] := hN3.blk
  refine WL_m rfl (ev_box rfl) ?_
  rintro _ w4 ⟨rfl, hN4⟩
  have hz4 := hN4.size
  replace hE := hE.trans hN4.ext
  replace hm := hm.ext hN4.ext
  replace hA := hA.ext hN4.ext
  replace hB3 := hB3.ext hN4.ext
  have hB4 : Blk w4 _ _ [_, _, _] := hN4.blk
  refine WL_q rfl (ev_assign rfl) ?_
  refine WL_nil ?_
  refine thenE_n ?_
  refine W_seq ?_
  refine W_region ?_
  refine WL_q rfl (ev_assign rfl) ?_
  refine WL_nil ?_
  refine thenE_n ?_
  refine W_seq ?_
  refine W_region ?_
  refine WL_q rfl (ev_loads st26 sz26 rfl (cellsB hB3) rfl) ?_
  refine WL_q rfl (ev_move rfl) ?_
  refine WL_m rfl (ev_call rfl (szMachine_spec _ m _ _ hm (by omega) hsm)) ?_
  rintro _ w21 ⟨r21, rfl, hE21, hr21⟩
  have hz21 := hE21.size
  replace hE := hE.trans hE21
  replace hm := hm.ext hE21
  replace hA := hA.ext hE21
  replace hB3 := hB3.ext hE21
  replace hB4 := hB4.ext hE21
  refine WL_q rfl (ev_assign rfl) ?_
  refine WL_nil ?_
  refine thenE_n ?_
  refine W_seq ?_
  refine W_seq ?_
  refine W_region ?_
  refine WL_q rfl (ev_move rfl) ?_
  refine WL_q rfl (ev_lss rfl rfl) ?_
  refine WL_nil ?_
  refine thenE_n ?_
  refine W_cond rfl (fun hg23 => ?_) (fun hg23 => ?_)
  · have hp23 := of_decide_eq_true hg23
    refine W_seq ?_
    refine W_region ?_
    refine WL_q rfl (ev_assign rfl) ?_
    refine WL_nil ?_
    refine thenE_n ?_
    refine W_ret ?_
    refine thenE_r ?_
    refine ret1 rfl rfl ?_
    first | (exact ⟨rfl, hE⟩) | (exact (tfX hg23).elim) | (exact (decF hg23).elim) | (exfalso; omega)
  · have hp23 := of_decide_eq_false hg23
    refine W_skip ?_
    refine thenE_n ?_
    refine W_seq ?_
    refine W_region ?_
    refine WL_q rfl (ev_loads st29 sz29 rfl (cellsB hB4) rfl) ?_
    refine WL_q rfl (ev_move rfl) ?_
    refine WL_m rfl (ev_call rfl (szNetwork_spec _ A _ _ hA (by omega) hsA)) ?_
    rintro _ w26 ⟨r26, rfl, hE26, hr26⟩
    have hz26 := hE26.size
    replace hE := hE.trans hE26
    replace hm := hm.ext hE26
    replace hA := hA.ext hE26
    replace hB3 := hB3.ext hE26
    replace hB4 := hB4.ext hE26
    refine WL_q rfl (ev_assign rfl) ?_
    refine WL_nil ?_
    refine thenE_n ?_
    refine W_seq ?_
    refine W_seq ?_
    refine W_region ?_
    refine WL_q rfl (ev_move rfl) ?_
    refine WL_q rfl (ev_lss rfl rfl) ?_
    refine WL_nil ?_
    refine thenE_n ?_
    refine W_cond rfl (fun hg28 => ?_) (fun hg28 => ?_)
    · have hp28 := of_decide_eq_true hg28
      refine W_seq ?_
      refine W_region ?_
      refine WL_q rfl (ev_assign rfl) ?_
      refine WL_nil ?_
      refine thenE_n ?_
      refine W_ret ?_
      refine thenE_r ?_
      refine ret1 rfl rfl ?_
      first | (exact ⟨rfl, hE⟩) | (exact (tfX hg28).elim) | (exact (decF hg28).elim) | (exfalso; omega)
    · have hp28 := of_decide_eq_false hg28
      refine W_skip ?_
      refine thenE_n ?_
      refine W_seq ?_
      refine W_drawE [(0, true), (2, true), (4, true), (1, false), (3, false), (5, false), (6, true), (7, true), (8, true), (9, true), (10, true)] mixed (by kernel_rfl) rfl (by kernel_rfl) ?_
      intro wd8 hEd8 hzd8
      replace hE := hE.trans hEd8
      replace hm := hm.ext hEd8
      replace hA := hA.ext hEd8
      replace hB3 := hB3.ext hEd8
      replace hB4 := hB4.ext hEd8
      have hDd8 := Ext.refl wd8
      refine PW_q rfl rfl (fun wq hq => ev_loads st26 sz26 rfl (cellsB (hq.blk hB3)) rfl) ?_
      refine PW_q rfl rfl (fun wq hq => ev_loads st29 sz29 rfl (cellsB (hq.blk hB4)) rfl) ?_
      refine PW_q rfl rfl (fun wq hq => ev_move rfl) ?_
      refine PW_m rfl rfl (ev_call rfl (toMachine_spec _ m _ hm (by omega) (by omega))) ?_
      rintro _ w31 ⟨h31, rfl, hF31, hE31⟩
      have hz31 := hE31.size
      replace hE := hE.trans hE31
      replace hDd8 := hDd8.trans hE31
      have hM31 := hF31.is
      refine ⟨hDd8, ?_⟩
      have hm_3 := hm.ext hDd8
      have hA_3 := hA.ext hDd8
      have hB3_3 := hB3.ext hDd8
      have hB4_3 := hB4.ext hDd8
      refine PW_m rfl rfl (ev_call rfl (toNetwork_spec _ A _ hA_3 (by omega) (by omega))) ?_
      rintro _ w33 ⟨h33, rfl, hF33, hE33⟩
      have hz33 := hE33.size
      replace hE := hE.trans hE33
      replace hDd8 := hDd8.trans hE33
      replace hF31 := hF31.ext hE33
      replace hM31 := hM31.ext hE33
      have hN33 := hF33.is
      refine ⟨hDd8, ?_⟩
      have hm_5 := hm.ext hDd8
      have hA_5 := hA.ext hDd8
      have hB3_5 := hB3.ext hDd8
      have hB4_5 := hB4.ext hDd8
      refine PW_m rfl rfl (ev_call rfl (sOutputsOf_spec _ m _ A _ _ hM31 (by omega) (by omega) hN33 (by omega) (by omega))) ?_
      rintro _ w35 ⟨a35, c35, y35, q35, rfl, hr35, hx35, hl35, hE35⟩
      have hz35 := hE35.size
      replace hE := hE.trans hE35
      replace hDd8 := hDd8.trans hE35
      replace hF31 := hF31.ext hE35
      replace hM31 := hM31.ext hE35
      replace hF33 := hF33.ext hE35
      replace hN33 := hN33.ext hE35
      refine ⟨hDd8, ?_⟩
      refine PW_q rfl rfl (fun wq hq => ev_move rfl) ?_
      refine PW_q rfl rfl (fun wq hq => ev_extract rfl rfl) ?_
      refine PW_q rfl rfl (fun wq hq => ev_extract rfl rfl) ?_
      refine PW_q rfl rfl (fun wq hq => ev_assign rfl) ?_
      refine PW_q rfl rfl (fun wq hq => ev_assign rfl) ?_
      replace hm := hm.ext hDd8
      replace hA := hA.ext hDd8
      replace hB3 := hB3.ext hDd8
      replace hB4 := hB4.ext hDd8
      refine PW_nil ?_
      refine thenE_n ?_
      refine W_seq ?_
      refine W_region ?_
      refine WL_q rfl (ev_loads st26 sz26 rfl (cellsB hB3) rfl) ?_
      refine WL_m rfl (ev_call rfl (toMachine_spec _ m _ hm (by omega) (by omega))) ?_
      rintro _ w39 ⟨h39, rfl, hF39, hE39⟩
      have hz39 := hE39.size
      replace hE := hE.trans hE39
      replace hm := hm.ext hE39
      replace hA := hA.ext hE39
      replace hB3 := hB3.ext hE39
      replace hB4 := hB4.ext hE39
      replace hF31 := hF31.ext hE39
      replace hM31 := hM31.ext hE39
      replace hF33 := hF33.ext hE39
      replace hN33 := hN33.ext hE39
      replace hx35 := hx35.ext hE39
      have hM39 := hF39.is
      refine WL_m rfl (ev_alloc zr36) ?_
      rintro _ w10 ⟨rfl, hN10⟩
      have hz10 := hN10.size
      replace hE := hE.trans hN10.ext
      replace hm := hm.ext hN10.ext
      replace hA := hA.ext hN10.ext
      replace hB3 := hB3.ext hN10.ext
      replace hB4 := hB4.ext hN10.ext
      replace hF31 := hF31.ext hN10.ext
      replace hM31 := hM31.ext hN10.ext
      replace hF33 := hF33.ext hN10.ext
      replace hN33 := hN33.ext hN10.ext
      replace hx35 := hx35.ext hN10.ext
      replace hF39 := hF39.ext hN10.ext
      replace hM39 := hM39.ext hN10.ext
      have hB10 : Blk w10 _ _ [_, _, _, _, _, _, _] := hN10.blk
      refine WL_s (ev_stores sz36 rfl rfl rfl (by simp [Value.oneCell']) hB10 (by simp)) ?_
      rintro _ w9_3 hS9_3
      have hz9_3 := hS9_3.size
      replace hE := hE.sto hS9_3 (by omega)
      replace hm := hm.sto hS9_3 (by omega)
      replace hA := hA.sto hS9_3 (by omega)
      replace hB3 := hB3.sto hS9_3 (by omega)
      replace hB4 := hB4.sto hS9_3 (by omega)
      replace hF31 := hF31.sto hS9_3 (by omega)
      replace hM31 := hM31.sto hS9_3 (by omega)
      replace hF33 := hF33.sto hS9_3 (by omega)
      replace hN33 := hN33.sto hS9_3 (by omega)
      replace hx35 := hx35.sto hS9_3 (by omega)
      replace hF39 := hF39.sto hS9_3 (by omega)
      replace hM39 := hM39.sto hS9_3 (by omega)
      replace hB10 : Blk w9_3 _ _ [_, _, _, _, _, _, _] := hS9_3.blk
      refine WL_nil ?_
      refine thenE_n ?_
      refine W_seq ?_
      refine W_region ?_
      refine WL_q rfl (ev_loads st29 sz29 rfl (cellsB hB4) rfl) ?_
      refine WL_m rfl (ev_call rfl (toNetwork_spec _ A _ hA (by omega) (by omega))) ?_
      rintro _ w41 ⟨h41, rfl, hF41, hE41⟩
      have hz41 := hE41.size
      replace hE := hE.trans hE41
      replace hm := hm.ext hE41
      replace hA := hA.ext hE41
      replace hB3 := hB3.ext hE41
      replace hB4 := hB4.ext hE41
      replace hF31 := hF31.ext hE41
      replace hM31 := hM31.ext hE41
      replace hF33 := hF33.ext hE41
      replace hN33 := hN33.ext hE41
      replace hx35 := hx35.ext hE41
      replace hF39 := hF39.ext hE41
      replace hM39 := hM39.ext hE41
      replace hB10 := hB10.ext hE41
      have hN41 := hF41.is
      refine WL_m rfl (ev_alloc zr40) ?_
      rintro _ w11 ⟨rfl, hN11⟩
      have hz11 := hN11.size
      replace hE := hE.trans hN11.ext
      replace hm := hm.ext hN11.ext
      replace hA := hA.ext hN11.ext
      replace hB3 := hB3.ext hN11.ext
      replace hB4 := hB4.ext hN11.ext
      replace hF31 := hF31.ext hN11.ext
      replace hM31 := hM31.ext hN11.ext
      replace hF33 := hF33.ext hN11.ext
      replace hN33 := hN33.ext hN11.ext
      replace hx35 := hx35.ext hN11.ext
      replace hF39 := hF39.ext hN11.ext
      replace hM39 := hM39.ext hN11.ext
      replace hB10 := hB10.ext hN11.ext
      replace hF41 := hF41.ext hN11.ext
      replace hN41 := hN41.ext hN11.ext
      have hB11 : Blk w11 _ _ [_, _, _] := hN11.blk
      refine WL_s (ev_stores sz40 rfl rfl rfl (by simp [Value.oneCell']) hB11 (by simp)) ?_
      rintro _ w10_3 hS10_3
      have hz10_3 := hS10_3.size
      replace hE := hE.sto hS10_3 (by omega)
      replace hm := hm.sto hS10_3 (by omega)
      replace hA := hA.sto hS10_3 (by omega)
      replace hB3 := hB3.sto hS10_3 (by omega)
      replace hB4 := hB4.sto hS10_3 (by omega)
      replace hF31 := hF31.sto hS10_3 (by omega)
      replace hM31 := hM31.sto hS10_3 (by omega)
      replace hF33 := hF33.sto hS10_3 (by omega)
      replace hN33 := hN33.sto hS10_3 (by omega)
      replace hx35 := hx35.sto hS10_3 (by omega)
      replace hF39 := hF39.sto hS10_3 (by omega)
      replace hM39 := hM39.sto hS10_3 (by omega)
      replace hB10 := hB10.sto hS10_3 (by omega)
      replace hF41 := hF41.sto hS10_3 (by omega)
      replace hN41 := hN41.sto hS10_3 (by omega)
      replace hB11 : Blk w10_3 _ _ [_, _, _] := hS10_3.blk
      refine WL_nil ?_
      refine thenE_n ?_
      refine W_seq ?_
      refine W_region ?_
      refine WL_q rfl (ev_loads st36 sz36 rfl (cellsB hB10) rfl) ?_
      refine WL_q rfl (ev_loads st40 sz40 rfl (cellsB hB11) rfl) ?_
      refine WL_q rfl (ev_move rfl) ?_
      refine WL_m rfl (ev_call rfl (OutputsOf_spec _ m _ A _ _ hM39 (by omega) (by omega) hN41 (by omega) (by omega))) ?_
      rintro _ w46 ⟨a46, c46, y46, q46, rfl, hr46, hO46, hl46, hE46⟩
      have hz46 := hE46.size
      replace hE := hE.trans hE46
      replace hm := hm.ext hE46
      replace hA := hA.ext hE46
      replace hB3 := hB3.ext hE46
      replace hB4 := hB4.ext hE46
      replace hF31 := hF31.ext hE46
      replace hM31 := hM31.ext hE46
      replace hF33 := hF33.ext hE46
      replace hN33 := hN33.ext hE46
      replace hx35 := hx35.ext hE46
      replace hF39 := hF39.ext hE46
      replace hM39 := hM39.ext hE46
      replace hB10 := hB10.ext hE46
      replace hF41 := hF41.ext hE46
      replace hN41 := hN41.ext hE46
      replace hB11 := hB11.ext hE46
      refine WL_q rfl (ev_move rfl) ?_
      refine WL_q rfl (ev_extract rfl rfl) ?_
      refine WL_q rfl (ev_extract rfl rfl) ?_
      refine WL_q rfl (ev_assign rfl) ?_
      refine WL_q rfl (ev_assign rfl) ?_
      refine WL_nil ?_
      refine thenE_n ?_
      refine W_seq ?_
      refine W_seq ?_
      refine W_region ?_
      refine WL_q rfl (ev_move rfl) ?_
      refine WL_q rfl (ev_move rfl) ?_
      refine WL_m rfl (ev_call rfl (eqIntS_spec _ _ _ _ y46 y35 _ (ownt_i hO46) hx35 (by omega))) ?_
      rintro _ w51 ⟨rfl, hE51⟩
      have hz51 := hE51.size
      replace hE := hE.trans hE51
      replace hm := hm.ext hE51
      replace hA := hA.ext hE51
      replace hB3 := hB3.ext hE51
      replace hB4 := hB4.ext hE51
      replace hF31 := hF31.ext hE51
      replace hM31 := hM31.ext hE51
      replace hF33 := hF33.ext hE51
      replace hN33 := hN33.ext hE51
      replace hx35 := hx35.ext hE51
      replace hF39 := hF39.ext hE51
      replace hM39 := hM39.ext hE51
      replace hB10 := hB10.ext hE51
      replace hF41 := hF41.ext hE51
      replace hN41 := hN41.ext hE51
      replace hB11 := hB11.ext hE51
      replace hO46 := hO46.ext hE51
      refine WL_q rfl (ev_not rfl) ?_
      refine WL_q rfl (ev_move rfl) ?_
      refine WL_splitv (t := 53) rfl (fun hg52 => ?_) (fun hg52 => ?_)
      · have hg51 := not_true hg52
        refine WL_no rfl rfl hg52 rfl ?_
        refine WL_no rfl rfl hg52 rfl ?_
        refine WL_no rfl rfl hg52 rfl ?_
        refine WL_q rfl (ev_pick_t rfl hg52 rfl) ?_
        refine WL_nil ?_
        refine thenE_n ?_
        refine W_cond_t rfl ?_
        refine W_seq ?_
        refine W_region ?_
        refine WL_q rfl (ev_assign rfl) ?_
        refine WL_nil ?_
        refine thenE_n ?_
        refine W_ret ?_
        refine thenE_r ?_
        refine ret1 rfl rfl ?_
        first | (exact ⟨rfl, hE⟩) | (exact (bneE hg51 (hr46.det1 hr35)).elim) | (exact absurd (hr46.det1 hr35) hp51) | (exact absurd (hr46.det1 hr35) (of_decide_eq_false hg51)) | (exact (bneE hg51 (hr46.det2 hr35)).elim) | (exact absurd (hr46.det2 hr35) hp51) | (exact absurd (hr46.det2 hr35) (of_decide_eq_false hg51)) | (exact (bneE hg51 (hr46.det3 hr35)).elim) | (exact absurd (hr46.det3 hr35) hp51) | (exact absurd (hr46.det3 hr35) (of_decide_eq_false hg51)) | (exact (tfX hg51).elim) | (exact (decF hg51).elim) | (exfalso; omega)
      · have hg51 := not_false hg52
        refine WL_qg rfl rfl hg52 rfl (ev_move rfl) ?_
        refine WL_qg rfl rfl hg52 rfl (ev_move rfl) ?_
        refine WL_qg rfl rfl hg52 rfl (ev_neq_b Tryz.underlying4 rfl rfl) ?_
        refine WL_q rfl (ev_pick_f rfl hg52 rfl) ?_
        refine WL_nil ?_
        refine thenE_n ?_
        refine W_cond rfl (fun hg56 => ?_) (fun hg56 => ?_)
        · refine W_seq ?_
          refine W_region ?_
          refine WL_q rfl (ev_assign rfl) ?_
          refine WL_nil ?_
          refine thenE_n ?_
          refine W_ret ?_
          refine thenE_r ?_
          refine ret1 rfl rfl ?_
          first | (exact ⟨rfl, hE⟩) | (exact (bneE hg56 (hr46.det1 hr35)).elim) | (exact absurd (hr46.det1 hr35) hp56) | (exact absurd (hr46.det1 hr35) (of_decide_eq_false hg56)) | (exact (bneE hg56 (hr46.det2 hr35)).elim) | (exact absurd (hr46.det2 hr35) hp56) | (exact absurd (hr46.det2 hr35) (of_decide_eq_false hg56)) | (exact (bneE hg56 (hr46.det3 hr35)).elim) | (exact absurd (hr46.det3 hr35) hp56) | (exact absurd (hr46.det3 hr35) (of_decide_eq_false hg56)) | (exact (tfX hg56).elim) | (exact (decF hg56).elim) | (exfalso; omega)
        · refine W_skip ?_
          refine thenE_n ?_
          refine W_seq ?_
          refine W_seq ?_
          refine W_drawE [(0, true), (1, true), (2, false), (3, false), (4, true)] mixed (by kernel_rfl) rfl (by kernel_rfl) ?_
          intro wd14 hEd14 hzd14
          replace hE := hE.trans hEd14
          replace hm := hm.ext hEd14
          replace hA := hA.ext hEd14
          replace hB3 := hB3.ext hEd14
          replace hB4 := hB4.ext hEd14
          replace hF31 := hF31.ext hEd14
          replace hM31 := hM31.ext hEd14
          replace hF33 := hF33.ext hEd14
          replace hN33 := hN33.ext hEd14
          replace hx35 := hx35.ext hEd14
          replace hF39 := hF39.ext hEd14
          replace hM39 := hM39.ext hEd14
          replace hB10 := hB10.ext hEd14
          replace hF41 := hF41.ext hEd14
          replace hN41 := hN41.ext hEd14
          replace hB11 := hB11.ext hEd14
          replace hO46 := hO46.ext hEd14
          have hDd14 := Ext.refl wd14
          refine PW_q rfl rfl (fun wq hq => ev_loads st36 sz36 rfl (cellsB (hq.blk hB10)) rfl) ?_
          refine PW_q rfl rfl (fun wq hq => ev_loads st26 sz26 rfl (cellsB (hq.blk hB3)) rfl) ?_
          refine PW_m rfl rfl (ev_call rfl (toMachine_spec _ m _ hm (by omega) (by omega))) ?_
          rintro _ w60 ⟨h60, rfl, hF60, hE60⟩
          have hz60 := hE60.size
          replace hE := hE.trans hE60
          replace hDd14 := hDd14.trans hE60
          have hM60 := hF60.is
          refine ⟨hDd14, ?_⟩
          have hm_3 := hm.ext hDd14
          have hA_3 := hA.ext hDd14
          have hB3_3 := hB3.ext hDd14
          have hB4_3 := hB4.ext hDd14
          have hF31_3 := hF31.ext hDd14
          have hM31_3 := hM31.ext hDd14
          have hF33_3 := hF33.ext hDd14
          have hN33_3 := hN33.ext hDd14
          have hx35_3 := hx35.ext hDd14
          have hF39_3 := hF39.ext hDd14
          have hM39_3 := hM39.ext hDd14
          have hB10_3 := hB10.ext hDd14
          have hF41_3 := hF41.ext hDd14
          have hN41_3 := hN41.ext hDd14
          have hB11_3 := hB11.ext hDd14
          have hO46_3 := hO46.ext hDd14
          refine PW_m rfl rfl (ev_call rfl (eqMachine_spec _ _ m _ hM39_3 hM60 (by omega))) ?_
          rintro _ w61 ⟨rfl, hE61⟩
          have hz61 := hE61.size
          replace hE := hE.trans hE61
          replace hDd14 := hDd14.trans hE61
          replace hF60 := hF60.ext hE61
          replace hM60 := hM60.ext hE61
          refine ⟨hDd14, ?_⟩
          refine PW_q rfl rfl (fun wq hq => ev_not rfl) ?_
          replace hm := hm.ext hDd14
          replace hA := hA.ext hDd14
          replace hB3 := hB3.ext hDd14
          replace hB4 := hB4.ext hDd14
          replace hF31 := hF31.ext hDd14
          replace hM31 := hM31.ext hDd14
          replace hF33 := hF33.ext hDd14
          replace hN33 := hN33.ext hDd14
          replace hx35 := hx35.ext hDd14
          replace hF39 := hF39.ext hDd14
          replace hM39 := hM39.ext hDd14
          replace hB10 := hB10.ext hDd14
          replace hF41 := hF41.ext hDd14
          replace hN41 := hN41.ext hDd14
          replace hB11 := hB11.ext hDd14
          replace hO46 := hO46.ext hDd14
          refine PW_nil ?_
          refine thenE_n ?_
          refine W_cond rfl (fun hg62 => ?_) (fun hg62 => ?_)
          · have hg61 := not_true hg62
            refine W_seq ?_
            refine W_region ?_
            refine WL_q rfl (ev_assign rfl) ?_
            refine WL_nil ?_
            refine thenE_n ?_
            refine W_ret ?_
            refine thenE_r ?_
            refine ret1 rfl rfl ?_
            first | (exact ⟨rfl, hE⟩) | (exact (bneE hg61 (hr46.det1 hr35)).elim) | (exact absurd (hr46.det1 hr35) hp61) | (exact absurd (hr46.det1 hr35) (of_decide_eq_false hg61)) | (exact (bneE hg61 (hr46.det2 hr35)).elim) | (exact absurd (hr46.det2 hr35) hp61) | (exact absurd (hr46.det2 hr35) (of_decide_eq_false hg61)) | (exact (bneE hg61 (hr46.det3 hr35)).elim) | (exact absurd (hr46.det3 hr35) hp61) | (exact absurd (hr46.det3 hr35) (of_decide_eq_false hg61)) | (exact (tfX hg61).elim) | (exact (decF hg61).elim) | (exfalso; omega)
          · have hg61 := not_false hg62
            refine W_skip ?_
            refine thenE_n ?_
            refine W_seq ?_
            refine W_seq ?_
            refine W_drawE [(0, true), (1, true), (2, false), (3, false), (4, true)] mixed (by kernel_rfl) rfl (by kernel_rfl) ?_
            intro wd16 hEd16 hzd16
            replace hE := hE.trans hEd16
            replace hm := hm.ext hEd16
            replace hA := hA.ext hEd16
            replace hB3 := hB3.ext hEd16
            replace hB4 := hB4.ext hEd16
            replace hF31 := hF31.ext hEd16
            replace hM31 := hM31.ext hEd16
            replace hF33 := hF33.ext hEd16
            replace hN33 := hN33.ext hEd16
            replace hx35 := hx35.ext hEd16
            replace hF39 := hF39.ext hEd16
            replace hM39 := hM39.ext hEd16
            replace hB10 := hB10.ext hEd16
            replace hF41 := hF41.ext hEd16
            replace hN41 := hN41.ext hEd16
            replace hB11 := hB11.ext hEd16
            replace hO46 := hO46.ext hEd16
            replace hF60 := hF60.ext hEd16
            replace hM60 := hM60.ext hEd16
            have hDd16 := Ext.refl wd16
            refine PW_q rfl rfl (fun wq hq => ev_loads st40 sz40 rfl (cellsB (hq.blk hB11)) rfl) ?_
            refine PW_q rfl rfl (fun wq hq => ev_loads st29 sz29 rfl (cellsB (hq.blk hB4)) rfl) ?_
            refine PW_m rfl rfl (ev_call rfl (toNetwork_spec _ A _ hA (by omega) (by omega))) ?_
            rintro _ w65 ⟨h65, rfl, hF65, hE65⟩
            have hz65 := hE65.size
            replace hE := hE.trans hE65
            replace hDd16 := hDd16.trans hE65
            have hN65 := hF65.is
            refine ⟨hDd16, ?_⟩
            have hm_3 := hm.ext hDd16
            have hA_3 := hA.ext hDd16
            have hB3_3 := hB3.ext hDd16
            have hB4_3 := hB4.ext hDd16
            have hF31_3 := hF31.ext hDd16
            have hM31_3 := hM31.ext hDd16
            have hF33_3 := hF33.ext hDd16
            have hN33_3 := hN33.ext hDd16
            have hx35_3 := hx35.ext hDd16
            have hF39_3 := hF39.ext hDd16
            have hM39_3 := hM39.ext hDd16
            have hB10_3 := hB10.ext hDd16
            have hF41_3 := hF41.ext hDd16
            have hN41_3 := hN41.ext hDd16
            have hB11_3 := hB11.ext hDd16
            have hO46_3 := hO46.ext hDd16
            have hF60_3 := hF60.ext hDd16
            have hM60_3 := hM60.ext hDd16
            refine PW_m rfl rfl (ev_call rfl (eqNetwork_spec _ _ A _ hN41_3 hN65 (by omega))) ?_
            rintro _ w66 ⟨rfl, hE66⟩
            have hz66 := hE66.size
            replace hE := hE.trans hE66
            replace hDd16 := hDd16.trans hE66
            replace hF65 := hF65.ext hE66
            replace hN65 := hN65.ext hE66
            refine ⟨hDd16, ?_⟩
            refine PW_q rfl rfl (fun wq hq => ev_not rfl) ?_
            replace hm := hm.ext hDd16
            replace hA := hA.ext hDd16
            replace hB3 := hB3.ext hDd16
            replace hB4 := hB4.ext hDd16
            replace hF31 := hF31.ext hDd16
            replace hM31 := hM31.ext hDd16
            replace hF33 := hF33.ext hDd16
            replace hN33 := hN33.ext hDd16
            replace hx35 := hx35.ext hDd16
            replace hF39 := hF39.ext hDd16
            replace hM39 := hM39.ext hDd16
            replace hB10 := hB10.ext hDd16
            replace hF41 := hF41.ext hDd16
            replace hN41 := hN41.ext hDd16
            replace hB11 := hB11.ext hDd16
            replace hO46 := hO46.ext hDd16
            replace hF60 := hF60.ext hDd16
            replace hM60 := hM60.ext hDd16
            refine PW_nil ?_
            refine thenE_n ?_
            refine W_cond rfl (fun hg67 => ?_) (fun hg67 => ?_)
            · have hg66 := not_true hg67
              refine W_seq ?_
              refine W_region ?_
              refine WL_q rfl (ev_assign rfl) ?_
              refine WL_nil ?_
              refine thenE_n ?_
              refine W_ret ?_
              refine thenE_r ?_
              refine ret1 rfl rfl ?_
              first | (exact ⟨rfl, hE⟩) | (exact (bneE hg66 (hr46.det1 hr35)).elim) | (exact absurd (hr46.det1 hr35) hp66) | (exact absurd (hr46.det1 hr35) (of_decide_eq_false hg66)) | (exact (bneE hg66 (hr46.det2 hr35)).elim) | (exact absurd (hr46.det2 hr35) hp66) | (exact absurd (hr46.det2 hr35) (of_decide_eq_false hg66)) | (exact (bneE hg66 (hr46.det3 hr35)).elim) | (exact absurd (hr46.det3 hr35) hp66) | (exact absurd (hr46.det3 hr35) (of_decide_eq_false hg66)) | (exact (tfX hg66).elim) | (exact (decF hg66).elim) | (exfalso; omega)
            · have hg66 := not_false hg67
              refine W_skip ?_
              refine thenE_n ?_
              refine W_seq ?_
              refine W_region ?_
              refine WL_q rfl (ev_assign rfl) ?_
              refine WL_nil ?_
              refine thenE_n ?_
              refine W_seq ?_
              refine W_region ?_
              refine WL_q rfl (ev_loads st36 sz36 rfl (cellsB hB10) rfl) ?_
              refine WL_q rfl (ev_move rfl) ?_
              refine WL_m rfl (ev_call rfl (markMachine_spec _ m _ _ hF39 (by omega) (by omega) (by omega))) ?_
              rintro _ w70 ⟨r70, rfl, hr70, hK70⟩
              have hz70 := hK70.size
              replace hE := hE.mrk hK70 (by omega)
              replace hm := hm.mrk hK70 (by omega)
              replace hA := hA.mrk hK70 (by omega)
              replace hB3 := hB3.mrk hK70 (by omega)
              replace hB4 := hB4.mrk hK70 (by omega)
              replace hF31 := hF31.mrk hK70 (by omega)
              replace hM31 := hM31.mrk hK70 (by omega)
              replace hF33 := hF33.mrk hK70 (by omega)
              replace hN33 := hN33.mrk hK70 (by omega)
              replace hx35 := hx35.mrk hK70 (by omega)
              replace hB10 := hB10.mrk hK70 (by omega)
              replace hF41 := hF41.mrk hK70 (by omega)
              replace hN41 := hN41.mrk hK70 (by omega)
              replace hB11 := hB11.mrk hK70 (by omega)
              replace hO46 := hO46.mrk hK70 (by omega)
              replace hF60 := hF60.mrk hK70 (by omega)
              replace hM60 := hM60.mrk hK70 (by omega)
              replace hF65 := hF65.mrk hK70 (by omega)
              replace hN65 := hN65.mrk hK70 (by omega)
              refine WL_q rfl (ev_assign rfl) ?_
              refine WL_nil ?_
              refine thenE_n ?_
              refine W_seq ?_
              refine W_region ?_
              refine WL_q rfl (ev_loads st40 sz40 rfl (cellsB hB11) rfl) ?_
              refine WL_q rfl (ev_move rfl) ?_
              refine WL_m rfl (ev_call rfl (markNetwork_spec _ A _ _ hF41 (by omega) (by omega) (by omega))) ?_
              rintro _ w73 ⟨r73, rfl, hr73, hK73⟩
              have hz73 := hK73.size
              replace hE := hE.mrk hK73 (by omega)
              replace hm := hm.mrk hK73 (by omega)
              replace hA := hA.mrk hK73 (by omega)
              replace hB3 := hB3.mrk hK73 (by omega)
              replace hB4 := hB4.mrk hK73 (by omega)
              replace hF31 := hF31.mrk hK73 (by omega)
              replace hM31 := hM31.mrk hK73 (by omega)
              replace hF33 := hF33.mrk hK73 (by omega)
              replace hN33 := hN33.mrk hK73 (by omega)
              replace hx35 := hx35.mrk hK73 (by omega)
              replace hB10 := hB10.mrk hK73 (by omega)
              replace hB11 := hB11.mrk hK73 (by omega)
              replace hO46 := hO46.mrk hK73 (by omega)
              replace hF60 := hF60.mrk hK73 (by omega)
              replace hM60 := hM60.mrk hK73 (by omega)
              replace hF65 := hF65.mrk hK73 (by omega)
              replace hN65 := hN65.mrk hK73 (by omega)
              refine WL_q rfl (ev_assign rfl) ?_
              refine WL_nil ?_
              refine thenE_n ?_
              refine W_seq ?_
              refine W_seq ?_
              refine W_region ?_
              refine WL_q rfl (ev_move rfl) ?_
              refine WL_q rfl (ev_lss rfl rfl) ?_
              refine WL_q rfl (ev_move rfl) ?_
              refine WL_splitv (t := 76) rfl (fun hg75 => ?_) (fun hg75 => ?_)
              · have hp75 := of_decide_eq_true hg75
                refine WL_no rfl rfl hg75 rfl ?_
                refine WL_no rfl rfl hg75 rfl ?_
                refine WL_no rfl rfl hg75 rfl ?_
                refine WL_no rfl rfl hg75 rfl ?_
                refine WL_q rfl (ev_pick_t rfl hg75 rfl) ?_
                refine WL_q rfl (ev_move rfl) ?_
                refine WL_no rfl rfl rfl rfl ?_
                refine WL_no rfl rfl rfl rfl ?_
                refine WL_no rfl rfl rfl rfl ?_
                refine WL_q rfl (ev_pick_t rfl rfl rfl) ?_
                refine WL_nil ?_
                refine thenE_n ?_
                refine W_cond_t rfl ?_
                refine W_seq ?_
                refine W_region ?_
                refine WL_q rfl (ev_assign rfl) ?_
                refine WL_nil ?_
                refine thenE_n ?_
                refine W_ret ?_
                refine thenE_r ?_
                refine ret1 rfl rfl ?_
                first | (exact ⟨rfl, hE⟩) | (exact (bneE hg75 (hr46.det1 hr35)).elim) | (exact absurd (hr46.det1 hr35) hp75) | (exact absurd (hr46.det1 hr35) (of_decide_eq_false hg75)) | (exact (bneE hg75 (hr46.det2 hr35)).elim) | (exact absurd (hr46.det2 hr35) hp75) | (exact absurd (hr46.det2 hr35) (of_decide_eq_false hg75)) | (exact (bneE hg75 (hr46.det3 hr35)).elim) | (exact absurd (hr46.det3 hr35) hp75) | (exact absurd (hr46.det3 hr35) (of_decide_eq_false hg75)) | (exact (tfX hg75).elim) | (exact (decF hg75).elim) | (exfalso; omega)
              · have hp75 := of_decide_eq_false hg75
                refine WL_qg rfl rfl hg75 rfl (ev_move rfl) ?_
                refine WL_qg rfl rfl hg75 rfl (ev_move rfl) ?_
                refine WL_mg rfl rfl hg75 rfl (ev_call rfl (eqIntS_spec _ _ _ _ y46 y35 _ (ownt_i hO46) hx35 (by omega))) ?_
                rintro _ w79 ⟨rfl, hE79⟩
                have hz79 := hE79.size
                replace hE := hE.trans hE79
                replace hm := hm.ext hE79
                replace hA := hA.ext hE79
                replace hB3 := hB3.ext hE79
                replace hB4 := hB4.ext hE79
                replace hF31 := hF31.ext hE79
                replace hM31 := hM31.ext hE79
                replace hF33 := hF33.ext hE79
                replace hN33 := hN33.ext hE79
                replace hx35 := hx35.ext hE79
                replace hB10 := hB10.ext hE79
                replace hB11 := hB11.ext hE79
                replace hO46 := hO46.ext hE79
                replace hF60 := hF60.ext hE79
                replace hM60 := hM60.ext hE79
                replace hF65 := hF65.ext hE79
                replace hN65 := hN65.ext hE79
                refine WL_qg rfl rfl hg75 rfl (ev_not rfl) ?_
                refine WL_q rfl (ev_pick_f rfl hg75 rfl) ?_
                refine WL_q rfl (ev_move rfl) ?_
                refine WL_splitv (t := 82) rfl (fun hg80 => ?_) (fun hg80 => ?_)
                · have hg79 := not_true hg80
                  refine WL_no rfl rfl hg80 rfl ?_
                  refine WL_no rfl rfl hg80 rfl ?_
                  refine WL_no rfl rfl hg80 rfl ?_
                  refine WL_q rfl (ev_pick_t rfl hg80 rfl) ?_
                  refine WL_nil ?_
                  refine thenE_n ?_
                  refine W_cond_t rfl ?_
                  refine W_seq ?_
                  refine W_region ?_
                  refine WL_q rfl (ev_assign rfl) ?_
                  refine WL_nil ?_
                  refine thenE_n ?_
                  refine W_ret ?_
                  refine thenE_r ?_
                  refine ret1 rfl rfl ?_
                  first | (exact ⟨rfl, hE⟩) | (exact (bneE hg79 (hr46.det1 hr35)).elim) | (exact absurd (hr46.det1 hr35) hp79) | (exact absurd (hr46.det1 hr35) (of_decide_eq_false hg79)) | (exact (bneE hg79 (hr46.det2 hr35)).elim) | (exact absurd (hr46.det2 hr35) hp79) | (exact absurd (hr46.det2 hr35) (of_decide_eq_false hg79)) | (exact (bneE hg79 (hr46.det3 hr35)).elim) | (exact absurd (hr46.det3 hr35) hp79) | (exact absurd (hr46.det3 hr35) (of_decide_eq_false hg79)) | (exact (tfX hg79).elim) | (exact (decF hg79).elim) | (exfalso; omega)
                · have hg79 := not_false hg80
                  refine WL_qg rfl rfl hg80 rfl (ev_move rfl) ?_
                  refine WL_qg rfl rfl hg80 rfl (ev_move rfl) ?_
                  refine WL_qg rfl rfl hg80 rfl (ev_neq_b Tryz.underlying4 rfl rfl) ?_
                  refine WL_q rfl (ev_pick_f rfl hg80 rfl) ?_
                  refine WL_nil ?_
                  refine thenE_n ?_
                  refine W_cond rfl (fun hg85 => ?_) (fun hg85 => ?_)
                  · refine W_seq ?_
                    refine W_region ?_
                    refine WL_q rfl (ev_assign rfl) ?_
                    refine WL_nil ?_
                    refine thenE_n ?_
                    refine W_ret ?_
                    refine thenE_r ?_
                    refine ret1 rfl rfl ?_
                    first | (exact ⟨rfl, hE⟩) | (exact (bneE hg85 (hr46.det1 hr35)).elim) | (exact absurd (hr46.det1 hr35) hp85) | (exact absurd (hr46.det1 hr35) (of_decide_eq_false hg85)) | (exact (bneE hg85 (hr46.det2 hr35)).elim) | (exact absurd (hr46.det2 hr35) hp85) | (exact absurd (hr46.det2 hr35) (of_decide_eq_false hg85)) | (exact (bneE hg85 (hr46.det3 hr35)).elim) | (exact absurd (hr46.det3 hr35) hp85) | (exact absurd (hr46.det3 hr35) (of_decide_eq_false hg85)) | (exact (tfX hg85).elim) | (exact (decF hg85).elim) | (exfalso; omega)
                  · refine W_skip ?_
                    refine thenE_n ?_
                    refine W_seq ?_
                    refine W_region ?_
                    refine WL_q rfl (ev_assign rfl) ?_
                    refine WL_nil ?_
                    refine thenE_n ?_
                    refine W_seq ?_
                    refine W_region ?_
                    refine WL_q rfl (ev_move rfl) ?_
                    refine WL_q rfl (ev_move rfl) ?_
                    refine WL_m rfl (ev_call rfl (markIntS_ownH hO46 (by omega) (by omega))) ?_
                    rintro _ w89 ⟨rfl, hO89, hK89⟩
                    have hz89 := hK89.size
                    have hR89 := hK89
                    replace hE := hE.rg hR89 (by omega)
                    replace hm := hm.rg hR89 (by omega)
                    replace hA := hA.rg hR89 (by omega)
                    replace hB3 := hB3.rg hR89 (by omega)
                    replace hB4 := hB4.rg hR89 (by omega)
                    replace hF31 := hF31.rg hR89 (by omega)
                    replace hM31 := hM31.rg hR89 (by omega)
                    replace hF33 := hF33.rg hR89 (by omega)
                    replace hN33 := hN33.rg hR89 (by omega)
                    replace hx35 := hx35.rg hR89 (by omega)
                    replace hB10 := hB10.rg hR89 (by omega)
                    replace hB11 := hB11.rg hR89 (by omega)
                    replace hF60 := hF60.rg hR89 (by omega)
                    replace hM60 := hM60.rg hR89 (by omega)
                    replace hF65 := hF65.rg hR89 (by omega)
                    replace hN65 := hN65.rg hR89 (by omega)
                    replace hO46 := hO89
                    refine WL_q rfl (ev_assign rfl) ?_
                    refine WL_nil ?_
                    refine thenE_n ?_
                    refine W_seq ?_
                    refine W_region ?_
                    refine WL_q rfl (ev_assign rfl) ?_
                    refine WL_nil ?_
                    refine thenE_n ?_
                    refine W_seq ?_
                    refine W_region ?_
                    refine WL_q rfl (ev_move rfl) ?_
                    refine WL_q rfl (ev_move rfl) ?_
                    refine WL_m rfl (ev_call rfl (heldIntS_spec _ _ (nums 1 y46.length) _ _ (Ints.of_own (nums_len _ _) hO46.1) rfl (by omega) (by omega))) ?_
                    rintro _ w92 ⟨rfl, hE92⟩
                    have hz92 := hE92.size
                    replace hE := hE.trans hE92
                    replace hm := hm.ext hE92
                    replace hA := hA.ext hE92
                    replace hB3 := hB3.ext hE92
                    replace hB4 := hB4.ext hE92
                    replace hF31 := hF31.ext hE92
                    replace hM31 := hM31.ext hE92
                    replace hF33 := hF33.ext hE92
                    replace hN33 := hN33.ext hE92
                    replace hx35 := hx35.ext hE92
                    replace hB10 := hB10.ext hE92
                    replace hB11 := hB11.ext hE92
                    replace hO46 := hO46.ext hE92
                    replace hF60 := hF60.ext hE92
                    replace hM60 := hM60.ext hE92
                    replace hF65 := hF65.ext hE92
                    replace hN65 := hN65.ext hE92
                    refine WL_q rfl (ev_assign rfl) ?_
                    refine WL_nil ?_
                    refine thenE_n ?_
                    refine W_seq ?_
                    refine W_seq ?_
                    refine W_region ?_
                    refine WL_q rfl (ev_move rfl) ?_
                    refine WL_q rfl (ev_lss rfl rfl) ?_
                    refine WL_nil ?_
                    refine thenE_n ?_
                    refine W_cond rfl (fun hg94 => ?_) (fun hg94 => ?_)
                    · have hp94 := of_decide_eq_true hg94
                      refine W_seq ?_
                      refine W_region ?_
                      refine WL_q rfl (ev_assign rfl) ?_
                      refine WL_nil ?_
                      refine thenE_n ?_
                      refine W_ret ?_
                      refine thenE_r ?_
                      refine ret1 rfl rfl ?_
                      first | (exact ⟨rfl, hE⟩) | (exact (bneE hg94 (hr46.det1 hr35)).elim) | (exact absurd (hr46.det1 hr35) hp94) | (exact absurd (hr46.det1 hr35) (of_decide_eq_false hg94)) | (exact (bneE hg94 (hr46.det2 hr35)).elim) | (exact absurd (hr46.det2 hr35) hp94) | (exact absurd (hr46.det2 hr35) (of_decide_eq_false hg94)) | (exact (bneE hg94 (hr46.det3 hr35)).elim) | (exact absurd (hr46.det3 hr35) hp94) | (exact absurd (hr46.det3 hr35) (of_decide_eq_false hg94)) | (exact (tfX hg94).elim) | (exact (decF hg94).elim) | (exfalso; omega)
                    · have hp94 := of_decide_eq_false hg94
                      refine W_skip ?_
                      refine thenE_n ?_
                      refine W_seq ?_
                      refine W_seq ?_
                      refine W_region ?_
                      refine WL_q rfl (ev_move rfl) ?_
                      refine WL_q rfl (ev_move rfl) ?_
                      refine WL_q rfl (ev_neq rfl rfl) ?_
                      refine WL_nil ?_
                      refine thenE_n ?_
                      refine W_cond rfl (fun hg97 => ?_) (fun hg97 => ?_)
                      · have hp97 := of_decide_eq_true hg97
                        refine W_seq ?_
                        refine W_region ?_
                        refine WL_q rfl (ev_assign rfl) ?_
                        refine WL_nil ?_
                        refine thenE_n ?_
                        refine W_ret ?_
                        refine thenE_r ?_
                        refine ret1 rfl rfl ?_
                        first | (exact ⟨rfl, hE⟩) | (exact (bneE hg97 (hr46.det1 hr35)).elim) | (exact absurd (hr46.det1 hr35) hp97) | (exact absurd (hr46.det1 hr35) (of_decide_eq_false hg97)) | (exact (bneE hg97 (hr46.det2 hr35)).elim) | (exact absurd (hr46.det2 hr35) hp97) | (exact absurd (hr46.det2 hr35) (of_decide_eq_false hg97)) | (exact (bneE hg97 (hr46.det3 hr35)).elim) | (exact absurd (hr46.det3 hr35) hp97) | (exact absurd (hr46.det3 hr35) (of_decide_eq_false hg97)) | (exact (tfX hg97).elim) | (exact (decF hg97).elim) | (exfalso; omega)
                      · have hp97 := of_decide_eq_false hg97
                        refine W_skip ?_
                        refine thenE_n ?_
                        refine W_seq ?_
                        refine W_drawE [(0, true), (2, true), (4, true), (1, false), (3, false), (5, false), (6, true), (7, true), (8, true), (9, true), (10, true)] mixed (by kernel_rfl) rfl (by kernel_rfl) ?_
                        intro wd31 hEd31 hzd31
                        replace hE := hE.trans hEd31
                        replace hm := hm.ext hEd31
                        replace hA := hA.ext hEd31
                        replace hB3 := hB3.ext hEd31
                        replace hB4 := hB4.ext hEd31
                        replace hF31 := hF31.ext hEd31
                        replace hM31 := hM31.ext hEd31
                        replace hF33 := hF33.ext hEd31
                        replace hN33 := hN33.ext hEd31
                        replace hx35 := hx35.ext hEd31
                        replace hB10 := hB10.ext hEd31
                        replace hB11 := hB11.ext hEd31
                        replace hO46 := hO46.ext hEd31
                        replace hF60 := hF60.ext hEd31
                        replace hM60 := hM60.ext hEd31
                        replace hF65 := hF65.ext hEd31
                        replace hN65 := hN65.ext hEd31
                        have hDd31 := Ext.refl wd31
                        refine PW_q rfl rfl (fun wq hq => ev_loads st26 sz26 rfl (cellsB (hq.blk hB3)) rfl) ?_
                        refine PW_q rfl rfl (fun wq hq => ev_loads st29 sz29 rfl (cellsB (hq.blk hB4)) rfl) ?_
                        refine PW_q rfl rfl (fun wq hq => ev_move rfl) ?_
                        refine PW_m rfl rfl (ev_call rfl (toMachine_spec _ m _ hm (by omega) (by omega))) ?_
                        rintro _ w100 ⟨h100, rfl, hF100, hE100⟩
                        have hz100 := hE100.size
                        replace hE := hE.trans hE100
                        replace hDd31 := hDd31.trans hE100
                        have hM100 := hF100.is
                        refine ⟨hDd31, ?_⟩
                        have hm_3 := hm.ext hDd31
                        have hA_3 := hA.ext hDd31
                        have hB3_3 := hB3.ext hDd31
                        have hB4_3 := hB4.ext hDd31
                        have hF31_3 := hF31.ext hDd31
                        have hM31_3 := hM31.ext hDd31
                        have hF33_3 := hF33.ext hDd31
                        have hN33_3 := hN33.ext hDd31
                        have hx35_3 := hx35.ext hDd31
                        have hB10_3 := hB10.ext hDd31
                        have hB11_3 := hB11.ext hDd31
                        have hO46_3 := hO46.ext hDd31
                        have hF60_3 := hF60.ext hDd31
                        have hM60_3 := hM60.ext hDd31
                        have hF65_3 := hF65.ext hDd31
                        have hN65_3 := hN65.ext hDd31
                        refine PW_m rfl rfl (ev_call rfl (toNetwork_spec _ A _ hA_3 (by omega) (by omega))) ?_
                        rintro _ w102 ⟨h102, rfl, hF102, hE102⟩
                        have hz102 := hE102.size
                        replace hE := hE.trans hE102
                        replace hDd31 := hDd31.trans hE102
                        replace hF100 := hF100.ext hE102
                        replace hM100 := hM100.ext hE102
                        have hN102 := hF102.is
                        refine ⟨hDd31, ?_⟩
                        have hm_5 := hm.ext hDd31
                        have hA_5 := hA.ext hDd31
                        have hB3_5 := hB3.ext hDd31
                        have hB4_5 := hB4.ext hDd31
                        have hF31_5 := hF31.ext hDd31
                        have hM31_5 := hM31.ext hDd31
                        have hF33_5 := hF33.ext hDd31
                        have hN33_5 := hN33.ext hDd31
                        have hx35_5 := hx35.ext hDd31
                        have hB10_5 := hB10.ext hDd31
                        have hB11_5 := hB11.ext hDd31
                        have hO46_5 := hO46.ext hDd31
                        have hF60_5 := hF60.ext hDd31
                        have hM60_5 := hM60.ext hDd31
                        have hF65_5 := hF65.ext hDd31
                        have hN65_5 := hN65.ext hDd31
                        refine PW_m rfl rfl (ev_call rfl (OutputsOf_spec _ m _ A _ _ hM100 (by omega) (by omega) hN102 (by omega) (by omega))) ?_
                        rintro _ w104 ⟨a104, c104, y104, q104, rfl, hr104, hO104, hl104, hE104⟩
                        have hz104 := hE104.size
                        replace hE := hE.trans hE104
                        replace hDd31 := hDd31.trans hE104
                        replace hF100 := hF100.ext hE104
                        replace hM100 := hM100.ext hE104
                        replace hF102 := hF102.ext hE104
                        replace hN102 := hN102.ext hE104
                        refine ⟨hDd31, ?_⟩
                        refine PW_q rfl rfl (fun wq hq => ev_move rfl) ?_
                        refine PW_q rfl rfl (fun wq hq => ev_extract rfl rfl) ?_
                        refine PW_q rfl rfl (fun wq hq => ev_extract rfl rfl) ?_
                        refine PW_q rfl rfl (fun wq hq => ev_assign rfl) ?_
                        refine PW_q rfl rfl (fun wq hq => ev_assign rfl) ?_
                        replace hm := hm.ext hDd31
                        replace hA := hA.ext hDd31
                        replace hB3 := hB3.ext hDd31
                        replace hB4 := hB4.ext hDd31
                        replace hF31 := hF31.ext hDd31
                        replace hM31 := hM31.ext hDd31
                        replace hF33 := hF33.ext hDd31
                        replace hN33 := hN33.ext hDd31
                        replace hx35 := hx35.ext hDd31
                        replace hB10 := hB10.ext hDd31
                        replace hB11 := hB11.ext hDd31
                        replace hO46 := hO46.ext hDd31
                        replace hF60 := hF60.ext hDd31
                        replace hM60 := hM60.ext hDd31
                        replace hF65 := hF65.ext hDd31
                        replace hN65 := hN65.ext hDd31
                        refine PW_nil ?_
                        refine thenE_n ?_
                        refine W_seq ?_
                        refine W_seq ?_
                        refine W_region ?_
                        refine WL_q rfl (ev_move rfl) ?_
                        refine WL_q rfl (ev_move rfl) ?_
                        refine WL_m rfl (ev_call rfl (eqIntS_spec _ _ _ _ y104 y35 _ (ownt_i hO104) hx35 (by omega))) ?_
                        rintro _ w109 ⟨rfl, hE109⟩
                        have hz109 := hE109.size
                        replace hE := hE.trans hE109
                        replace hm := hm.ext hE109
                        replace hA := hA.ext hE109
                        replace hB3 := hB3.ext hE109
                        replace hB4 := hB4.ext hE109
                        replace hF31 := hF31.ext hE109
                        replace hM31 := hM31.ext hE109
                        replace hF33 := hF33.ext hE109
                        replace hN33 := hN33.ext hE109
                        replace hx35 := hx35.ext hE109
                        replace hB10 := hB10.ext hE109
                        replace hB11 := hB11.ext hE109
                        replace hO46 := hO46.ext hE109
                        replace hF60 := hF60.ext hE109
                        replace hM60 := hM60.ext hE109
                        replace hF65 := hF65.ext hE109
                        replace hN65 := hN65.ext hE109
                        replace hF100 := hF100.ext hE109
                        replace hM100 := hM100.ext hE109
                        replace hF102 := hF102.ext hE109
                        replace hN102 := hN102.ext hE109
                        replace hO104 := hO104.ext hE109
                        refine WL_q rfl (ev_not rfl) ?_
                        refine WL_q rfl (ev_move rfl) ?_
                        refine WL_splitv (t := 111) rfl (fun hg110 => ?_) (fun hg110 => ?_)
                        · have hg109 := not_true hg110
                          refine WL_no rfl rfl hg110 rfl ?_
                          refine WL_no rfl rfl hg110 rfl ?_
                          refine WL_no rfl rfl hg110 rfl ?_
                          refine WL_q rfl (ev_pick_t rfl hg110 rfl) ?_
                          refine WL_nil ?_
                          refine thenE_n ?_
                          refine W_cond_t rfl ?_
                          refine W_seq ?_
                          refine W_region ?_
                          refine WL_q rfl (ev_assign rfl) ?_
                          refine WL_nil ?_
                          refine thenE_n ?_
                          refine W_ret ?_
                          refine thenE_r ?_
                          refine ret1 rfl rfl ?_
                          first | (exact ⟨rfl, hE⟩) | (exact (bneE hg109 (hr104.det1 hr35)).elim) | (exact absurd (hr104.det1 hr35) hp109) | (exact absurd (hr104.det1 hr35) (of_decide_eq_false hg109)) | (exact (bneE hg109 (hr104.det2 hr35)).elim) | (exact absurd (hr104.det2 hr35) hp109) | (exact absurd (hr104.det2 hr35) (of_decide_eq_false hg109)) | (exact (bneE hg109 (hr104.det3 hr35)).elim) | (exact absurd (hr104.det3 hr35) hp109) | (exact absurd (hr104.det3 hr35) (of_decide_eq_false hg109)) | (exact (bneE hg109 (hr46.det1 hr35)).elim) | (exact absurd (hr46.det1 hr35) hp109) | (exact absurd (hr46.det1 hr35) (of_decide_eq_false hg109)) | (exact (bneE hg109 (hr46.det2 hr35)).elim) | (exact absurd (hr46.det2 hr35) hp109) | (exact absurd (hr46.det2 hr35) (of_decide_eq_false hg109)) | (exact (bneE hg109 (hr46.det3 hr35)).elim) | (exact absurd (hr46.det3 hr35) hp109) | (exact absurd (hr46.det3 hr35) (of_decide_eq_false hg109)) | (exact (tfX hg109).elim) | (exact (decF hg109).elim) | (exfalso; omega)
                        · have hg109 := not_false hg110
                          refine WL_qg rfl rfl hg110 rfl (ev_move rfl) ?_
                          refine WL_qg rfl rfl hg110 rfl (ev_move rfl) ?_
                          refine WL_qg rfl rfl hg110 rfl (ev_neq_b Tryz.underlying4 rfl rfl) ?_
                          refine WL_q rfl (ev_pick_f rfl hg110 rfl) ?_
                          refine WL_nil ?_
                          refine thenE_n ?_
                          refine W_cond rfl (fun hg114 => ?_) (fun hg114 => ?_)
                          · refine W_seq ?_
                            refine W_region ?_
                            refine WL_q rfl (ev_assign rfl) ?_
                            refine WL_nil ?_
                            refine thenE_n ?_
                            refine W_ret ?_
                            refine thenE_r ?_
                            refine ret1 rfl rfl ?_
                            first | (exact ⟨rfl, hE⟩) | (exact (bneE hg114 (hr104.det1 hr35)).elim) | (exact absurd (hr104.det1 hr35) hp114) | (exact absurd (hr104.det1 hr35) (of_decide_eq_false hg114)) | (exact (bneE hg114 (hr104.det2 hr35)).elim) | (exact absurd (hr104.det2 hr35) hp114) | (exact absurd (hr104.det2 hr35) (of_decide_eq_false hg114)) | (exact (bneE hg114 (hr104.det3 hr35)).elim) | (exact absurd (hr104.det3 hr35) hp114) | (exact absurd (hr104.det3 hr35) (of_decide_eq_false hg114)) | (exact (bneE hg114 (hr46.det1 hr35)).elim) | (exact absurd (hr46.det1 hr35) hp114) | (exact absurd (hr46.det1 hr35) (of_decide_eq_false hg114)) | (exact (bneE hg114 (hr46.det2 hr35)).elim) | (exact absurd (hr46.det2 hr35) hp114) | (exact absurd (hr46.det2 hr35) (of_decide_eq_false hg114)) | (exact (bneE hg114 (hr46.det3 hr35)).elim) | (exact absurd (hr46.det3 hr35) hp114) | (exact absurd (hr46.det3 hr35) (of_decide_eq_false hg114)) | (exact (tfX hg114).elim) | (exact (decF hg114).elim) | (exfalso; omega)
                          · refine W_skip ?_
                            refine thenE_n ?_
                            refine W_seq ?_
                            refine W_region ?_
                            refine WL_q rfl (ev_assign rfl) ?_
                            refine WL_nil ?_
                            refine thenE_n ?_
                            refine W_seq ?_
                            refine W_region ?_
                            refine WL_q rfl (ev_move rfl) ?_
                            refine WL_q rfl (ev_move rfl) ?_
                            refine WL_m rfl (ev_call rfl (heldIntS_spec _ _ (nums 1 y46.length) _ _ (Ints.of_own (nums_len _ _) hO46.1) rfl (by omega) (by omega))) ?_
                            rintro _ w118 ⟨rfl, hE118⟩
                            have hz118 := hE118.size
                            replace hE := hE.trans hE118
                            replace hm := hm.ext hE118
                            replace hA := hA.ext hE118
                            replace hB3 := hB3.ext hE118
                            replace hB4 := hB4.ext hE118
                            replace hF31 := hF31.ext hE118
                            replace hM31 := hM31.ext hE118
                            replace hF33 := hF33.ext hE118
                            replace hN33 := hN33.ext hE118
                            replace hx35 := hx35.ext hE118
                            replace hB10 := hB10.ext hE118
                            replace hB11 := hB11.ext hE118
                            replace hO46 := hO46.ext hE118
                            replace hF60 := hF60.ext hE118
                            replace hM60 := hM60.ext hE118
                            replace hF65 := hF65.ext hE118
                            replace hN65 := hN65.ext hE118
                            replace hF100 := hF100.ext hE118
                            replace hM100 := hM100.ext hE118
                            replace hF102 := hF102.ext hE118
                            replace hN102 := hN102.ext hE118
                            replace hO104 := hO104.ext hE118
                            refine WL_q rfl (ev_assign rfl) ?_
                            refine WL_nil ?_
                            refine thenE_n ?_
                            refine W_seq ?_
                            refine W_seq ?_
                            refine W_region ?_
                            refine WL_q rfl (ev_move rfl) ?_
                            refine WL_q rfl (ev_lss rfl rfl) ?_
                            refine WL_nil ?_
                            refine thenE_n ?_
                            refine W_cond rfl (fun hg120 => ?_) (fun hg120 => ?_)
                            · have hp120 := of_decide_eq_true hg120
                              refine W_seq ?_
                              refine W_region ?_
                              refine WL_q rfl (ev_assign rfl) ?_
                              refine WL_nil ?_
                              refine thenE_n ?_
                              refine W_ret ?_
                              refine thenE_r ?_
                              refine ret1 rfl rfl ?_
                              first | (exact ⟨rfl, hE⟩) | (exact (bneE hg120 (hr104.det1 hr35)).elim) | (exact absurd (hr104.det1 hr35) hp120) | (exact absurd (hr104.det1 hr35) (of_decide_eq_false hg120)) | (exact (bneE hg120 (hr104.det2 hr35)).elim) | (exact absurd (hr104.det2 hr35) hp120) | (exact absurd (hr104.det2 hr35) (of_decide_eq_false hg120)) | (exact (bneE hg120 (hr104.det3 hr35)).elim) | (exact absurd (hr104.det3 hr35) hp120) | (exact absurd (hr104.det3 hr35) (of_decide_eq_false hg120)) | (exact (bneE hg120 (hr46.det1 hr35)).elim) | (exact absurd (hr46.det1 hr35) hp120) | (exact absurd (hr46.det1 hr35) (of_decide_eq_false hg120)) | (exact (bneE hg120 (hr46.det2 hr35)).elim) | (exact absurd (hr46.det2 hr35) hp120) | (exact absurd (hr46.det2 hr35) (of_decide_eq_false hg120)) | (exact (bneE hg120 (hr46.det3 hr35)).elim) | (exact absurd (hr46.det3 hr35) hp120) | (exact absurd (hr46.det3 hr35) (of_decide_eq_false hg120)) | (exact (tfX hg120).elim) | (exact (decF hg120).elim) | (exfalso; omega)
                            · have hp120 := of_decide_eq_false hg120
                              refine W_skip ?_
                              refine thenE_n ?_
                              refine W_seq ?_
                              refine W_seq ?_
                              refine W_region ?_
                              refine WL_q rfl (ev_move rfl) ?_
                              refine WL_q rfl (ev_move rfl) ?_
                              refine WL_q rfl (ev_neq rfl rfl) ?_
                              refine WL_nil ?_
                              refine thenE_n ?_
                              refine W_cond rfl (fun hg123 => ?_) (fun hg123 => ?_)
                              · have hp123 := of_decide_eq_true hg123
                                refine W_seq ?_
                                refine W_region ?_
                                refine WL_q rfl (ev_assign rfl) ?_
                                refine WL_nil ?_
                                refine thenE_n ?_
                                refine W_ret ?_
                                refine thenE_r ?_
                                refine ret1 rfl rfl ?_
                                first | (exact ⟨rfl, hE⟩) | (exact (bneE hg123 (hr104.det1 hr35)).elim) | (exact absurd (hr104.det1 hr35) hp123) | (exact absurd (hr104.det1 hr35) (of_decide_eq_false hg123)) | (exact (bneE hg123 (hr104.det2 hr35)).elim) | (exact absurd (hr104.det2 hr35) hp123) | (exact absurd (hr104.det2 hr35) (of_decide_eq_false hg123)) | (exact (bneE hg123 (hr104.det3 hr35)).elim) | (exact absurd (hr104.det3 hr35) hp123) | (exact absurd (hr104.det3 hr35) (of_decide_eq_false hg123)) | (exact (bneE hg123 (hr46.det1 hr35)).elim) | (exact absurd (hr46.det1 hr35) hp123) | (exact absurd (hr46.det1 hr35) (of_decide_eq_false hg123)) | (exact (bneE hg123 (hr46.det2 hr35)).elim) | (exact absurd (hr46.det2 hr35) hp123) | (exact absurd (hr46.det2 hr35) (of_decide_eq_false hg123)) | (exact (bneE hg123 (hr46.det3 hr35)).elim) | (exact absurd (hr46.det3 hr35) hp123) | (exact absurd (hr46.det3 hr35) (of_decide_eq_false hg123)) | (exact (tfX hg123).elim) | (exact (decF hg123).elim) | (exfalso; omega)
                              · have hp123 := of_decide_eq_false hg123
                                refine W_skip ?_
                                refine thenE_n ?_
                                refine W_seq ?_
                                refine W_region ?_
                                refine WL_q rfl (ev_assign rfl) ?_
                                refine WL_nil ?_
                                refine thenE_n ?_
                                refine W_ret ?_
                                refine ret1 rfl rfl ?_
                                first | (exact ⟨rfl, hE⟩) | (exact (bneE hg123 (hr104.det1 hr35)).elim) | (exact absurd (hr104.det1 hr35) hp123) | (exact absurd (hr104.det1 hr35) (of_decide_eq_false hg123)) | (exact (bneE hg123 (hr104.det2 hr35)).elim) | (exact absurd (hr104.det2 hr35) hp123) | (exact absurd (hr104.det2 hr35) (of_decide_eq_false hg123)) | (exact (bneE hg123 (hr104.det3 hr35)).elim) | (exact absurd (hr104.det3 hr35) hp123) | (exact absurd (hr104.det3 hr35) (of_decide_eq_false hg123)) | (exact (bneE hg123 (hr46.det1 hr35)).elim) | (exact absurd (hr46.det1 hr35) hp123) | (exact absurd (hr46.det1 hr35) (of_decide_eq_false hg123)) | (exact (bneE hg123 (hr46.det2 hr35)).elim) | (exact absurd (hr46.det2 hr35) hp123) | (exact absurd (hr46.det2 hr35) (of_decide_eq_false hg123)) | (exact (bneE hg123 (hr46.det3 hr35)).elim) | (exact absurd (hr46.det3 hr35) hp123) | (exact absurd (hr46.det3 hr35) (of_decide_eq_false hg123)) | (exact (tfX hg123).elim) | (exact (decF hg123).elim) | (exfalso; omega)

end Go.Proofs.YtebjcbgencenbaaGreat
