/- Contracts of PushNodes, of the program and of the reference; the walk of its law. -/
import Derived.Test.YtgnlfhggebijcaaComp
namespace Go.Proofs.Ytgnlfhggebijcaa
open Go Go.RowKit

set_option maxHeartbeats 4000000 in
set_option maxRecDepth 100000 in
theorem sPushNodes_spec {loA hiA : Nat} (nA : NA) (A : Net) {loB hiB : Nat} (nB : NA) (B : Net) {lom him : Nat} (am : Option Addr) (cm : Nat) (m : List Int) {lol hil : Nat} (al : Option Addr) (cl : Nat) (l : List Int) (w : World) (hA : IsNet loA hiA w nA A) (hhiA : hiA ≤ w.heap.size) (hnA : totN A ≤ 1048576) (hB : IsNet loB hiB w nB B) (hhiB : hiB ≤ w.heap.size) (hnB : totN B ≤ 1048576) (hm : Ints lom him w am cm m) (hhim : him ≤ w.heap.size) (hnm : m.length ≤ 1048576) (hl : Ints lol hil w al cl l) (hhil : hil ≤ w.heap.size) (hnl : l.length ≤ 1048576) :
    Fn Try.prog 43 #[netV nA A, netV nB B, .slice am m.length cm, .slice al l.length cl] w (fun o9 w' => ∃ a' c' ys q, o9 = .tuple #[.slice a' ys.length c', VB q] ∧ RV [] (opt (((NOk A ∧ NOk B ∧ IsPM A B m) ∧ onto m B.ends.length = true) ∧ (l.length : Int) = A.ends.length ∧ PushV l m B.ends.length) (pushL l m B.ends.length)) ys q ∧ Ints 0 w'.heap.size w' a' c' ys ∧ ys.length ≤ 1048576 ∧ Ext w w') := by
  have hqA := totL_len A.ends
  have hmA : totL A.ends + A.ids.length + A.inputs.length ≤ 1048576 := hnA
  have hqB := totL_len B.ends
  have hmB : totL B.ends + B.ids.length + B.inputs.length ≤ 1048576 := hnB
  have hpl := pushL_len l m B.ends.length
  have hE := Ext.refl w
  refine Fn_of Try.func43 rfl rfl (by kernel_rfl) rfl ?_
  refine W_seq ?_
  refine W_region ?_
  refine WL_m rfl (ev_box rfl) ?_
  rintro _ w4 ⟨rfl, hN4⟩
  have hz4 := hN4.size
  replace hE := hE.trans hN4.ext
  replace hA := hA.ext hN4.ext
  replace hB := hB.ext hN4.ext
  replace hm := hm.ext hN4.ext
  replace hl := hl.ext hN4.ext
  have hB4 : Blk w4 _ _ [_, _, _] := hN4.blk
  refine WL_m rfl (ev_box rfl) ?_
  rintro _ w5 ⟨rfl, hN5⟩
  have hz5 := hN5.size
  replace hE := hE.trans hN5.ext
  replace hA := hA.ext hN5.ext
  replace hB := hB.ext hN5.ext
  replace hm := hm.ext hN5.ext
  replace hl := hl.ext hN5.ext
  replace hB4 := hB4.ext hN5.ext
  have hB5 : Blk w5 _ _ [_, _, _] := hN5.blk
  refine WL_q rfl (ev_assign rfl) ?_
  refine WL_q rfl (ev_assign rfl) ?_
  refine WL_nil ?_
  refine thenE_n ?_
  refine W_seq ?_
  refine W_seq ?_
  refine W_region ?_
  refine WL_q rfl (ev_loads st31 sz31 rfl (cellsB hB4) rfl) ?_
  refine WL_q rfl (ev_loads st31 sz31 rfl (cellsB hB5) rfl) ?_
  refine WL_q rfl (ev_move rfl) ?_
  refine WL_m rfl (ev_call rfl (coAsked_spec _ _ _ _ _ _ _ _ (by assumption) (by assumption) (by assumption) (by omega) (by omega) (by omega) (by omega) (by omega) (by omega))) ?_
  rintro _ w18 ⟨b18, rfl, hb18, hE18⟩
  have hz18 := hE18.size
  replace hE := hE.trans hE18
  replace hA := hA.ext hE18
  replace hB := hB.ext hE18
  replace hm := hm.ext hE18
  replace hl := hl.ext hE18
  replace hB4 := hB4.ext hE18
  replace hB5 := hB5.ext hE18
  refine WL_q rfl (ev_not rfl) ?_
  refine WL_q rfl (ev_move rfl) ?_
  refine WL_splitv (t := 20) rfl (fun hg19 => ?_) (fun hg19 => ?_)
  · have hg18 := not_true hg19
    have hp18 := ttN hb18 hg18
    refine WL_no rfl rfl hg19 rfl ?_
    refine WL_no rfl rfl hg19 rfl ?_
    refine WL_no rfl rfl hg19 rfl ?_
    refine WL_no rfl rfl hg19 rfl ?_
    refine WL_q rfl (ev_pick_t rfl hg19 rfl) ?_
    refine WL_q rfl (ev_move rfl) ?_
    refine WL_no rfl rfl rfl rfl ?_
    refine WL_no rfl rfl rfl rfl ?_
    refine WL_no rfl rfl rfl rfl ?_
    refine WL_no rfl rfl rfl rfl ?_
    refine WL_no rfl rfl rfl rfl ?_
    refine WL_no rfl rfl rfl rfl ?_
    refine WL_q rfl (ev_pick_t rfl rfl rfl) ?_
    refine WL_nil ?_
    refine thenE_n ?_
    refine W_cond_t rfl ?_
    refine W_seq ?_
    refine W_region ?_
    refine WL_q rfl (ev_assign rfl) ?_
    refine WL_q rfl (ev_assign rfl) ?_
    refine WL_nil ?_
    refine thenE_n ?_
    refine W_ret ?_
    refine thenE_r ?_
    refine ret2 rfl rfl rfl ?_
    first | (exact ⟨none, 0, [], _, rfl, .no (fun h => hp18 h.1.1), Ints.nil, by simp, hE⟩) | (exact ⟨none, 0, [], _, rfl, .no (fun h => tf hg23 h.1.2), Ints.nil, by simp, hE⟩) | (exact ⟨none, 0, [], _, rfl, .no (fun h => hp32 h.2.1), Ints.nil, by simp, hE⟩) | (exact ⟨none, 0, [], _, rfl, .no (fun h => pushR_no (h.2.2 i hlt) hlt2 (h1 := hfk2) (h0 := hf02) hp58), Ints.nil, by simp, hE⟩) | (have hi9 : i = (pushL l m B.ends.length).length := (by omega); subst hi9; rw [List.take_length] at hO; exact ⟨_, _, _, _, rfl, .yes ⟨⟨hp18, hg23⟩, by omega, fun j hj => hJ j (by omega) hj⟩ rfl, (ownt_i hO).mono (Nat.zero_le _) (Nat.le_refl _), by omega, hE⟩)
  · have hg18 := not_false hg19
    have hp18 := hb18.1 hg18
    refine WL_qg rfl rfl hg19 rfl (ev_loads st31 sz31 rfl (cellsB hB5) rfl) ?_
    refine WL_qg rfl rfl hg19 rfl (ev_move rfl) ?_
    refine WL_mg rfl rfl hg19 rfl (ev_call rfl (coOnto_spec nB B _ _ m _ hm (by omega) (fun x hx => allR_true.1 hp18.2.2.rng x hx) (by omega) (by omega))) ?_
    rintro _ w23 ⟨rfl, hE23⟩
    have hz23 := hE23.size
    replace hE := hE.trans hE23
    replace hA := hA.ext hE23
    replace hB := hB.ext hE23
    replace hm := hm.ext hE23
    replace hl := hl.ext hE23
    replace hB4 := hB4.ext hE23
    replace hB5 := hB5.ext hE23
    refine WL_qg rfl rfl hg19 rfl (ev_not rfl) ?_
    refine WL_q rfl (ev_pick_f rfl hg19 rfl) ?_
    refine WL_q rfl (ev_move rfl) ?_
    refine WL_splitv (t := 26) rfl (fun hg24 => ?_) (fun hg24 => ?_)
    · have hg23 := not_true hg24
      refine WL_no rfl rfl hg24 rfl ?_
      refine WL_no rfl rfl hg24 rfl ?_
      refine WL_no rfl rfl hg24 rfl ?_
      refine WL_no rfl rfl hg24 rfl ?_
      refine WL_no rfl rfl hg24 rfl ?_
      refine WL_no rfl rfl hg24 rfl ?_
      refine WL_q rfl (ev_pick_t rfl hg24 rfl) ?_
      refine WL_nil ?_
      refine thenE_n ?_
      refine W_cond_t rfl ?_
      refine W_seq ?_
      refine W_region ?_
      refine WL_q rfl (ev_assign rfl) ?_
      refine WL_q rfl (ev_assign rfl) ?_
      refine WL_nil ?_
      refine thenE_n ?_
      refine W_ret ?_
      refine thenE_r ?_
      refine ret2 rfl rfl rfl ?_
      first | (exact ⟨none, 0, [], _, rfl, .no (fun h => hp18 h.1.1), Ints.nil, by simp, hE⟩) | (exact ⟨none, 0, [], _, rfl, .no (fun h => tf hg23 h.1.2), Ints.nil, by simp, hE⟩) | (exact ⟨none, 0, [], _, rfl, .no (fun h => hp32 h.2.1), Ints.nil, by simp, hE⟩) | (exact ⟨none, 0, [], _, rfl, .no (fun h => pushR_no (h.2.2 i hlt) hlt2 (h1 := hfk2) (h0 := hf02) hp58), Ints.nil, by simp, hE⟩) | (have hi9 : i = (pushL l m B.ends.length).length := (by omega); subst hi9; rw [List.take_length] at hO; exact ⟨_, _, _, _, rfl, .yes ⟨⟨hp18, hg23⟩, by omega, fun j hj => hJ j (by omega) hj⟩ rfl, (ownt_i hO).mono (Nat.zero_le _) (Nat.le_refl _), by omega, hE⟩)
    · have hg23 := not_false hg24
      refine WL_qg rfl rfl hg24 rfl (ev_move rfl) ?_
      refine WL_qg rfl rfl hg24 rfl (ev_len Try.underlying23 rfl) ?_
      refine WL_qg rfl rfl hg24 rfl (ev_fieldAddr fo31_0 rfl) ?_
      refine WL_qg rfl rfl hg24 rfl (ev_load one29 rfl (hB4.cell rfl)) ?_
      refine WL_qg rfl rfl hg24 rfl (ev_len Try.underlying29 rfl) ?_
      refine WL_qg rfl rfl hg24 rfl (ev_neq rfl rfl) ?_
      refine WL_q rfl (ev_pick_f rfl hg24 rfl) ?_
      refine WL_nil ?_
      refine thenE_n ?_
      refine W_cond rfl (fun hg32 => ?_) (fun hg32 => ?_)
      · have hp32 := of_decide_eq_true hg32
        refine W_seq ?_
        refine W_region ?_
        refine WL_q rfl (ev_assign rfl) ?_
        refine WL_q rfl (ev_assign rfl) ?_
        refine WL_nil ?_
        refine thenE_n ?_
        refine W_ret ?_
        refine thenE_r ?_
        refine ret2 rfl rfl rfl ?_
        first | (exact ⟨none, 0, [], _, rfl, .no (fun h => hp18 h.1.1), Ints.nil, by simp, hE⟩) | (exact ⟨none, 0, [], _, rfl, .no (fun h => tf hg23 h.1.2), Ints.nil, by simp, hE⟩) | (exact ⟨none, 0, [], _, rfl, .no (fun h => hp32 h.2.1), Ints.nil, by simp, hE⟩) | (exact ⟨none, 0, [], _, rfl, .no (fun h => pushR_no (h.2.2 i hlt) hlt2 (h1 := hfk2) (h0 := hf02) hp58), Ints.nil, by simp, hE⟩) | (have hi9 : i = (pushL l m B.ends.length).length := (by omega); subst hi9; rw [List.take_length] at hO; exact ⟨_, _, _, _, rfl, .yes ⟨⟨hp18, hg23⟩, by omega, fun j hj => hJ j (by omega) hj⟩ rfl, (ownt_i hO).mono (Nat.zero_le _) (Nat.le_refl _), by omega, hE⟩)
      · have hp32 := of_decide_eq_false hg32
        refine W_skip ?_
        refine thenE_n ?_
        refine W_seq ?_
        refine W_region ?_
        refine WL_q rfl (ev_assign rfl) ?_
        refine WL_nil ?_
        refine thenE_n ?_
        refine W_seq ?_
        refine W_seq ?_
        refine W_region ?_
        refine WL_q rfl (ev_loads st31 sz31 rfl (cellsB hB5) rfl) ?_
        refine WL_q rfl (ev_move rfl) ?_
        refine WL_m rfl (ev_call rfl (coFibres_spec nB B _ _ m _ hm (by omega) (fun x hx => allR_true.1 hp18.2.2.rng x hx) (by omega) (by omega))) ?_
        rintro _ w36 ⟨b36, rfl, hR36, hE36⟩
        have hz36 := hE36.size
        replace hE := hE.trans hE36
        replace hA := hA.ext hE36
        replace hB := hB.ext hE36
        replace hm := hm.ext hE36
        replace hl := hl.ext hE36
        replace hB4 := hB4.ext hE36
        replace hB5 := hB5.ext hE36
        have hfl := fibs_len m B.ends.length
        have hI36 := hR36.is (c := B.ends.length) (by omega)
        have hml := hp18.2.2.len
        have hndA := hp18.1.nodes
        refine WL_q rfl (ev_len Try.underlying47 rfl) ?_
        refine WL_q rfl (ev_move rfl) ?_
        refine WL_nil ?_
        refine thenE_n ?_
        refine W_block ?_
        refine W_loopC (G := Nat × Option Addr × Nat) [(3, _), (36, _), (37, _)] ((Subs.c rfl (Subs.c rfl (Subs.c rfl Subs.n)))) (fun ⟨i, a, c⟩ => [(10, .slice a i c), (38, VI (i : Int))]) (fun ⟨i, a, c⟩ w' => Ext w36 w' ∧ i ≤ B.ends.length ∧ OwnH w36.heap.size w'.heap.size 0 0 w' 3 1 a i c (((pushL l m B.ends.length).take i).map VI) ∧ ∀ j (_h : j < i) (h2 : j < (fibs m B.ends.length).length), PushR l (fibs m B.ends.length)[j]) (fun g => B.ends.length - g.1) (0, none, 0) ((Subs.c rfl (Subs.c (lkI rfl (by omega)) Subs.n))) (⟨Ext.refl _, ⟨Nat.zero_le _, OwnH.nil, fun j h => by omega⟩⟩) ?_
        rintro ⟨i, a, c⟩ wL0 ⟨hRL0, hi', hO, hJ⟩
        have hzL0 := hRL0.size
        replace hE := hE.trans hRL0
        replace hA := hA.ext hRL0
        replace hB := hB.ext hRL0
        replace hm := hm.ext hRL0
        replace hl := hl.ext hRL0
        replace hB4 := hB4.ext hRL0
        replace hB5 := hB5.ext hRL0
        replace hI36 := hI36.ext hRL0
        refine W_seq ?_
        refine W_region ?_
        refine WL_q rfl (ev_lss rfl rfl) ?_
        refine WL_nil ?_
        refine thenE_n ?_
        refine W_seq ?_
        refine W_cond rfl (fun hg39 => ?_) (fun hg39 => ?_)
        · have hp39 := of_decide_eq_true hg39
          refine W_skip ?_
          refine thenE_n ?_
          refine W_seq ?_
          refine W_block ?_
          refine W_seq ?_
          refine W_region ?_
          have hlt : i < (fibs m B.ends.length).length := by omega
          have hpos := onto_pos hg23 hlt
          have hfr := fibs_row hlt
          obtain ⟨hf01, hf02q⟩ := fibs_at hlt hpos
          have hf02 : ((fibs m B.ends.length)[i][0]).toNat < l.length := by omega
          have hl40 : i < (fibs m B.ends.length).length := by omega
          have ht40 := totL_le hl40
          obtain ⟨a40, c40, hc40, hr40⟩ := hI36.row hl40
          refine WL_q rfl (ev_indexAddr Try.underlying47 sz23 rfl rfl (hI36.isSome (by omega)) (by omega) (by omega)) ?_
          refine WL_q rfl (ev_load one23 rfl (hc40)) ?_
          refine WL_q rfl (ev_assign rfl) ?_
          refine WL_nil ?_
          refine thenE_n ?_
          refine W_seq ?_
          refine W_seq ?_
          refine W_region ?_
          refine WL_q rfl (ev_move rfl) ?_
          refine WL_q rfl (ev_len Try.underlying23 rfl) ?_
          refine WL_q rfl (ev_move rfl) ?_
          refine WL_nil ?_
          refine thenE_n ?_
          refine W_block ?_
          refine W_loopC (G := Nat) [(3, _), (10, _), (12, _), (36, _), (37, _), (38, _), (42, _), (43, _)] ((Subs.c rfl (Subs.c rfl (Subs.c rfl (Subs.c rfl (Subs.c rfl (Subs.c rfl (Subs.c rfl (Subs.c rfl Subs.n))))))))) (fun k => [(44, VI (k : Int))]) (fun k w' => Ext wL0 w' ∧ k ≤ (fibs m B.ends.length)[i].length ∧ ∀ j (_h : j < k) (h2 : j < (fibs m B.ends.length)[i].length), l.getD ((fibs m B.ends.length)[i].getD j 0).toNat 0 = l.getD ((fibs m B.ends.length)[i].getD 0 0).toNat 0) (fun k => (fibs m B.ends.length)[i].length - k) 0 ((Subs.c (lkI rfl (by omega)) Subs.n)) (⟨Ext.refl _, ⟨Nat.zero_le _, fun j h => by omega⟩⟩) ?_
          rintro k wL2 ⟨hRL2, hk', hJ2⟩
          have hzL2 := hRL2.size
          replace hE := hE.trans hRL2
          replace hRL0 := hRL0.trans hRL2
          replace hA := hA.ext hRL2
          replace hB := hB.ext hRL2
          replace hm := hm.ext hRL2
          replace hl := hl.ext hRL2
          replace hB4 := hB4.ext hRL2
          replace hB5 := hB5.ext hRL2
          replace hI36 := hI36.ext hRL2
          replace hO := hO.ext hRL2
          replace hr40 := hr40.ext hRL2
          refine W_seq ?_
          refine W_region ?_
          refine WL_q rfl (ev_lss rfl rfl) ?_
          refine WL_nil ?_
          refine thenE_n ?_
          refine W_seq ?_
          refine W_cond rfl (fun hg45 => ?_) (fun hg45 => ?_)
          · have hp45 := of_decide_eq_true hg45
            refine W_skip ?_
            refine thenE_n ?_
            refine W_seq ?_
            refine W_block ?_
            refine W_seq ?_
            refine W_region ?_
            have hlt2 : k < (fibs m B.ends.length)[i].length := by omega
            obtain ⟨hfk1, hfk2q⟩ := fibs_at hlt hlt2
            have hfk2 : ((fibs m B.ends.length)[i][k]).toNat < l.length := by omega
            refine WL_q rfl (ev_indexAddr Try.underlying23 sz3 rfl rfl (hr40.isSome (by omega)) (by omega) (by omega)) ?_
            refine WL_q rfl (ev_load one3 rfl (hr40.cell (i := k) (by omega))) ?_
            refine WL_q rfl (ev_assign rfl) ?_
            refine WL_nil ?_
            refine thenE_n ?_
            refine W_seq ?_
            refine W_drawE [(0, true), (1, true), (2, true), (3, true), (4, true), (5, true), (6, true), (7, true), (8, true), (9, true), (10, true)] mixed (by kernel_rfl) rfl (by kernel_rfl) ?_
            intro wd10 hEd10 hzd10
            replace hE := hE.trans hEd10
            replace hRL0 := hRL0.trans hEd10
            replace hRL2 := hRL2.trans hEd10
            replace hA := hA.ext hEd10
            replace hB := hB.ext hEd10
            replace hm := hm.ext hEd10
            replace hl := hl.ext hEd10
            replace hB4 := hB4.ext hEd10
            replace hB5 := hB5.ext hEd10
            replace hI36 := hI36.ext hEd10
            replace hO := hO.ext hEd10
            replace hr40 := hr40.ext hEd10
            have hDd10 := Ext.refl wd10
            refine PW_q rfl rfl (fun wq hq => ev_move rfl) ?_
            refine PW_q rfl rfl (fun wq hq => ev_move rfl) ?_
            refine PW_q rfl rfl (fun wq hq => ev_indexAddr Try.underlying23 sz3 rfl rfl (hl.isSome (by omega)) (by omega) (by omega)) ?_
            have hc51 := hl.cell (i := ((fibs m B.ends.length)[i][k]).toNat) (by omega)
            refine PW_q rfl rfl (fun wq hq => ev_load one3 rfl (hq.cell (hc51))) ?_
            refine PW_q rfl rfl (fun wq hq => ev_move rfl) ?_
            refine PW_q rfl rfl (fun wq hq => ev_move rfl) ?_
            refine PW_q rfl rfl (fun wq hq => ev_indexAddr Try.underlying23 sz3 rfl rfl (hr40.isSome (by omega)) (by omega) (by omega)) ?_
            have hc55 := hr40.cell (i := 0) (by omega)
            refine PW_q rfl rfl (fun wq hq => ev_load one3 rfl (hq.cell (hc55))) ?_
            refine PW_q rfl rfl (fun wq hq => ev_indexAddr Try.underlying23 sz3 rfl rfl (hl.isSome (by omega)) (by omega) (by omega)) ?_
            have hc57 := hl.cell (i := ((fibs m B.ends.length)[i][0]).toNat) (by omega)
            refine PW_q rfl rfl (fun wq hq => ev_load one3 rfl (hq.cell (hc57))) ?_
            refine PW_q rfl rfl (fun wq hq => ev_neq rfl rfl) ?_
            refine PW_nil ?_
            refine thenE_n ?_
            refine W_cond rfl (fun hg58 => ?_) (fun hg58 => ?_)
            · have hp58 := of_decide_eq_true hg58
              refine W_seq ?_
              refine W_region ?_
              refine WL_q rfl (ev_assign rfl) ?_
              refine WL_q rfl (ev_assign rfl) ?_
              refine WL_nil ?_
              refine thenE_n ?_
              refine W_ret ?_
              refine blockE_r ?_
              refine thenE_r ?_
              refine thenE_r ?_
              refine blockE_r ?_
              refine thenE_r ?_
              refine blockE_r ?_
              refine thenE_r ?_
              refine thenE_r ?_
              refine blockE_r ?_
              refine thenE_r ?_
              refine ret2 rfl rfl rfl ?_
              first | (exact ⟨none, 0, [], _, rfl, .no (fun h => hp18 h.1.1), Ints.nil, by simp, hE⟩) | (exact ⟨none, 0, [], _, rfl, .no (fun h => tf hg23 h.1.2), Ints.nil, by simp, hE⟩) | (exact ⟨none, 0, [], _, rfl, .no (fun h => hp32 h.2.1), Ints.nil, by simp, hE⟩) | (exact ⟨none, 0, [], _, rfl, .no (fun h => pushR_no (h.2.2 i hlt) hlt2 (h1 := hfk2) (h0 := hf02) hp58), Ints.nil, by simp, hE⟩) | (have hi9 : i = (pushL l m B.ends.length).length := (by omega); subst hi9; rw [List.take_length] at hO; exact ⟨_, _, _, _, rfl, .yes ⟨⟨hp18, hg23⟩, by omega, fun j hj => hJ j (by omega) hj⟩ rfl, (ownt_i hO).mono (Nat.zero_le _) (Nat.le_refl _), by omega, hE⟩)
            · have hp58 := of_decide_eq_false hg58
              refine W_skip ?_
              refine blockE_n ?_
              refine thenE_n ?_
              refine W_region ?_
              refine WL_q rfl (ev_add rfl rfl (by omega)) ?_
              refine WL_q rfl (ev_move rfl) ?_
              refine WL_nil ?_
              refine thenE_n ?_
              exact ⟨k + 1, (Subs.c rfl (Subs.c rfl (Subs.c rfl (Subs.c rfl (Subs.c rfl (Subs.c rfl (Subs.c rfl (Subs.c rfl Subs.n)))))))), (Subs.c (lkI rfl (by omega)) Subs.n), ⟨hRL2, ⟨by omega, dsucc (P := fun j h2 => l.getD ((fibs m B.ends.length)[i].getD j 0).toNat 0 = l.getD ((fibs m B.ends.length)[i].getD 0 0).toNat 0) hJ2 hlt2 ((pushR_at hlt2 hfk2 hf02).2 (by omega))⟩⟩, by first | omega | (dsimp only; omega)⟩
          · have hp45 := of_decide_eq_false hg45
            refine W_exit ?_
            refine thenE_x ?_
            refine thenE_x ?_
            refine blockE_hit ?_
            refine thenE_n ?_
            refine W_region ?_
            refine WL_q rfl (ev_move rfl) ?_
            refine WL_q rfl (ev_move rfl) ?_
            refine WL_q rfl (ev_move rfl) ?_
            refine WL_q rfl (ev_indexAddr Try.underlying23 sz3 rfl rfl (hr40.isSome (by omega)) (by omega) (by omega)) ?_
            refine WL_q rfl (ev_load one3 rfl (hr40.cell (i := 0) (by omega))) ?_
            refine WL_q rfl (ev_indexAddr Try.underlying23 sz3 rfl rfl (hl.isSome (by omega)) (by omega) (by omega)) ?_
            refine WL_q rfl (ev_load one3 rfl (hl.cell (i := ((fibs m B.ends.length)[i][0]).toNat) (by omega))) ?_
            refine WL_m rfl (ev_lit1 Try.underlying23 el3 (by decide) (by decide) rfl rfl) ?_
            rintro _ w67 ⟨rfl, hN67⟩
            have hz67 := hN67.size
            replace hE := hE.trans hN67.ext
            replace hRL0 := hRL0.trans hN67.ext
            replace hA := hA.ext hN67.ext
            replace hB := hB.ext hN67.ext
            replace hm := hm.ext hN67.ext
            replace hl := hl.ext hN67.ext
            replace hB4 := hB4.ext hN67.ext
            replace hB5 := hB5.ext hN67.ext
            replace hI36 := hI36.ext hN67.ext
            replace hO := hO.ext hN67.ext
            replace hr40 := hr40.ext hN67.ext
            have hB67 := hN67.blk
            refine WL_m rfl (ev_appendT Try.underlying23 el3 rfl (by decide) rfl rfl hO (SAt.of_blk (cs := [_]) (ds := []) hB67) rfl (by simp [Value.oneCell']) (by omega) (by unfold maxLen; omega) (by omega)) ?_
            rintro _ w68 ⟨a68, c68, rfl, hO68, hK68, hQ68⟩
            have hz68 := hK68.size
            replace hE := hE.rg hK68 (by omega)
            replace hRL0 := hRL0.rg hK68 (by omega)
            replace hA := hA.rg hK68 (by omega)
            replace hB := hB.rg hK68 (by omega)
            replace hm := hm.rg hK68 (by omega)
            replace hl := hl.rg hK68 (by omega)
            replace hB4 := hB4.rg hK68 (by omega)
            replace hB5 := hB5.rg hK68 (by omega)
            replace hI36 := hI36.rg hK68 (by omega)
            replace hr40 := hr40.rg hK68 (by omega)
            replace hB67 := hB67.rg hK68 (by omega)
            replace hO := hO68
            replace hO := ownt_snocI hO
            refine WL_q rfl (ev_assign rfl) ?_
            refine WL_nil ?_
            refine blockE_n ?_
            refine thenE_n ?_
            refine W_region ?_
            refine WL_q rfl (ev_add rfl rfl (by omega)) ?_
            refine WL_q rfl (ev_move rfl) ?_
            refine WL_nil ?_
            refine thenE_n ?_
            exact ⟨(i + 1, a68, c68), (Subs.c rfl (Subs.c rfl (Subs.c rfl Subs.n))), (Subs.c rfl (Subs.c (lkI rfl (by omega)) Subs.n)), ⟨hRL0, ⟨by omega, (ownt_take hO (by omega) (pushL_at hlt hpos hf02 (by omega))).up (Nat.le_refl _) (by omega), dsucc (P := fun j h2 => PushR l (fibs m B.ends.length)[j]) hJ hlt (fun j hj => hJ2 j (by omega) hj)⟩⟩, by first | omega | (dsimp only; omega)⟩
        · have hp39 := of_decide_eq_false hg39
          refine W_exit ?_
          refine thenE_x ?_
          refine thenE_x ?_
          refine blockE_hit ?_
          refine thenE_n ?_
          refine W_seq ?_
          refine W_region ?_
          refine WL_q rfl (ev_move rfl) ?_
          refine WL_q rfl (ev_assign rfl) ?_
          refine WL_q rfl (ev_assign rfl) ?_
          refine WL_nil ?_
          refine thenE_n ?_
          refine W_ret ?_
          refine ret2 rfl rfl rfl ?_
          first | (exact ⟨none, 0, [], _, rfl, .no (fun h => hp18 h.1.1), Ints.nil, by simp, hE⟩) | (exact ⟨none, 0, [], _, rfl, .no (fun h => tf hg23 h.1.2), Ints.nil, by simp, hE⟩) | (exact ⟨none, 0, [], _, rfl, .no (fun h => hp32 h.2.1), Ints.nil, by simp, hE⟩) | (exact ⟨none, 0, [], _, rfl, .no (fun h => pushR_no (h.2.2 i hlt) hlt2 (h1 := hfk2) (h0 := hf02) hp58), Ints.nil, by simp, hE⟩) | (have hi9 : i = (pushL l m B.ends.length).length := (by omega); subst hi9; rw [List.take_length] at hO; exact ⟨_, _, _, _, rfl, .yes ⟨⟨hp18, hg23⟩, by omega, fun j hj => hJ j (by omega) hj⟩ rfl, (ownt_i hO).mono (Nat.zero_le _) (Nat.le_refl _), by omega, hE⟩)

set_option maxHeartbeats 4000000 in
set_option maxRecDepth 100000 in
theorem PushNodes_spec {loA hiA : Nat} (nA : NA) (A : Net) {loB hiB : Nat} (nB : NA) (B : Net) {lom him : Nat} (am : Option Addr) (cm : Nat) (m : List Int) {lol hil : Nat} (al : Option Addr) (cl : Nat) (l : List Int) (w : World) (hA : IsNet loA hiA w nA A) (hhiA : hiA ≤ w.heap.size) (hnA : totN A ≤ 1048576) (hB : IsNet loB hiB w nB B) (hhiB : hiB ≤ w.heap.size) (hnB : totN B ≤ 1048576) (hm : Ints lom him w am cm m) (hhim : him ≤ w.heap.size) (hnm : m.length ≤ 1048576) (hl : Ints lol hil w al cl l) (hhil : hil ≤ w.heap.size) (hnl : l.length ≤ 1048576) :
    Fn Try.prog 44 #[netV nA A, netV nB B, .slice am m.length cm, .slice al l.length cl] w (fun o9 w' => ∃ a' c' ys q, o9 = .tuple #[.slice a' ys.length c', VB q] ∧ RV [] (opt (((NOk A ∧ NOk B ∧ IsPM A B m) ∧ onto m B.ends.length = true) ∧ (l.length : Int) = A.ends.length ∧ PushV l m B.ends.length) (pushL l m B.ends.length)) ys q ∧ OwnH w.heap.size w'.heap.size 0 0 w' 3 1 a' ys.length c' (ys.map VI) ∧ ys.length ≤ 1048576 ∧ Ext w w') := by
  have hqA := totL_len A.ends
  have hmA : totL A.ends + A.ids.length + A.inputs.length ≤ 1048576 := hnA
  have hqB := totL_len B.ends
  have hmB : totL B.ends + B.ids.length + B.inputs.length ≤ 1048576 := hnB
  have hpl := pushL_len l m B.ends.length
  have hE := Ext.refl w
  refine Fn_of Try.func44 rfl rfl (by kernel_rfl) rfl ?_
  refine W_seq ?_
  refine W_region ?_
  refine WL_m rfl (ev_box rfl) ?_
  rintro _ w4 ⟨rfl, hN4⟩
  have hz4 := hN4.size
  replace hE := hE.trans hN4.ext
  replace hA := hA.ext hN4.ext
  replace hB := hB.ext hN4.ext
  replace hm := hm.ext hN4.ext
  replace hl := hl.ext hN4.ext
  have hB4 : Blk w4 _ _ [_, _, _] := hN4.blk
  refine WL_m rfl (ev_box rfl) ?_
  rintro _ w5 ⟨rfl, hN5⟩
  have hz5 := hN5.size
  replace hE := hE.trans hN5.ext
  replace hA := hA.ext hN5.ext
  replace hB := hB.ext hN5.ext
  replace hm := hm.ext hN5.ext
  replace hl := hl.ext hN5.ext
  replace hB4 := hB4.ext hN5.ext
  have hB5 : Blk w5 _ _ [_, _, _] := hN5.blk
  refine WL_q rfl (ev_assign rfl) ?_
  refine WL_q rfl (ev_assign rfl) ?_
  refine WL_nil ?_
  refine thenE_n ?_
  refine W_seq ?_
  refine W_seq ?_
  refine W_region ?_
  refine WL_q rfl (ev_loads st31 sz31 rfl (cellsB hB4) rfl) ?_
  refine WL_q rfl (ev_loads st31 sz31 rfl (cellsB hB5) rfl) ?_
  refine WL_q rfl (ev_move rfl) ?_
  refine WL_m rfl (ev_call rfl (mapOk_spec _ _ _ _ _ _ _ _ (by assumption) (by assumption) (by assumption) (by omega) (by omega) (by omega) (by omega) (by omega) (by omega))) ?_
  rintro _ w18 ⟨b18, rfl, hb18, hE18⟩
  have hz18 := hE18.size
  replace hE := hE.trans hE18
  replace hA := hA.ext hE18
  replace hB := hB.ext hE18
  replace hm := hm.ext hE18
  replace hl := hl.ext hE18
  replace hB4 := hB4.ext hE18
  replace hB5 := hB5.ext hE18
  refine WL_q rfl (ev_not rfl) ?_
  refine WL_q rfl (ev_move rfl) ?_
  refine WL_splitv (t := 20) rfl (fun hg19 => ?_) (fun hg19 => ?_)
  · have hg18 := not_true hg19
    have hp18 := ttN hb18 hg18
    refine WL_no rfl rfl hg19 rfl ?_
    refine WL_no rfl rfl hg19 rfl ?_
    refine WL_no rfl rfl hg19 rfl ?_
    refine WL_no rfl rfl hg19 rfl ?_
    refine WL_q rfl (ev_pick_t rfl hg19 rfl) ?_
    refine WL_q rfl (ev_move rfl) ?_
    refine WL_no rfl rfl rfl rfl ?_
    refine WL_no rfl rfl rfl rfl ?_
    refine WL_no rfl rfl rfl rfl ?_
    refine WL_no rfl rfl rfl rfl ?_
    refine WL_no rfl rfl rfl rfl ?_
    refine WL_no rfl rfl rfl rfl ?_
    refine WL_q rfl (ev_pick_t rfl rfl rfl) ?_
    refine WL_nil ?_
    refine thenE_n ?_
    refine W_cond_t rfl ?_
    refine W_seq ?_
    refine W_region ?_
    refine WL_q rfl (ev_assign rfl) ?_
    refine WL_q rfl (ev_assign rfl) ?_
    refine WL_nil ?_
    refine thenE_n ?_
    refine W_ret ?_
    refine thenE_r ?_
    refine ret2 rfl rfl rfl ?_
    first | (exact ⟨none, 0, [], _, rfl, .no (fun h => hp18 h.1.1), OwnH.nil, by simp, hE⟩) | (exact ⟨none, 0, [], _, rfl, .no (fun h => tf hg23 h.1.2), OwnH.nil, by simp, hE⟩) | (exact ⟨none, 0, [], _, rfl, .no (fun h => hp32 h.2.1), OwnH.nil, by simp, hE⟩) | (exact ⟨none, 0, [], _, rfl, .no (fun h => pushR_no (h.2.2 i hlt) hlt2 (h1 := hfk2) (h0 := hf02) hp60), OwnH.nil, by simp, hE⟩) | (have hi9 : i = (pushL l m B.ends.length).length := (by omega); subst hi9; rw [List.take_length] at hO; exact ⟨_, _, _, _, rfl, .yes ⟨⟨hp18, hg23⟩, by omega, fun j hj => hJ j (by omega) hj⟩ rfl, hO.up (by omega) (Nat.le_refl _), by omega, hE⟩)
  · have hg18 := not_false hg19
    have hp18 := hb18.1 hg18
    refine WL_qg rfl rfl hg19 rfl (ev_loads st31 sz31 rfl (cellsB hB5) rfl) ?_
    refine WL_qg rfl rfl hg19 rfl (ev_move rfl) ?_
    refine WL_mg rfl rfl hg19 rfl (ev_call rfl (covers_spec nB B _ _ m _ hm (by omega) (fun x hx => allR_true.1 hp18.2.2.rng x hx) (by omega) (by omega))) ?_
    rintro _ w23 ⟨rfl, hE23⟩
    have hz23 := hE23.size
    replace hE := hE.trans hE23
    replace hA := hA.ext hE23
    replace hB := hB.ext hE23
    replace hm := hm.ext hE23
    replace hl := hl.ext hE23
    replace hB4 := hB4.ext hE23
    replace hB5 := hB5.ext hE23
    refine WL_qg rfl rfl hg19 rfl (ev_not rfl) ?_
    refine WL_q rfl (ev_pick_f rfl hg19 rfl) ?_
    refine WL_q rfl (ev_move rfl) ?_
    refine WL_splitv (t := 26) rfl (fun hg24 => ?_) (fun hg24 => ?_)
    · have hg23 := not_true hg24
      refine WL_no rfl rfl hg24 rfl ?_
      refine WL_no rfl rfl hg24 rfl ?_
      refine WL_no rfl rfl hg24 rfl ?_
      refine WL_no rfl rfl hg24 rfl ?_
      refine WL_no rfl rfl hg24 rfl ?_
      refine WL_no rfl rfl hg24 rfl ?_
      refine WL_q rfl (ev_pick_t rfl hg24 rfl) ?_
      refine WL_nil ?_
      refine thenE_n ?_
      refine W_cond_t rfl ?_
      refine W_seq ?_
      refine W_region ?_
      refine WL_q rfl (ev_assign rfl) ?_
      refine WL_q rfl (ev_assign rfl) ?_
      refine WL_nil ?_
      refine thenE_n ?_
      refine W_ret ?_
      refine thenE_r ?_
      refine ret2 rfl rfl rfl ?_
      first | (exact ⟨none, 0, [], _, rfl, .no (fun h => hp18 h.1.1), OwnH.nil, by simp, hE⟩) | (exact ⟨none, 0, [], _, rfl, .no (fun h => tf hg23 h.1.2), OwnH.nil, by simp, hE⟩) | (exact ⟨none, 0, [], _, rfl, .no (fun h => hp32 h.2.1), OwnH.nil, by simp, hE⟩) | (exact ⟨none, 0, [], _, rfl, .no (fun h => pushR_no (h.2.2 i hlt) hlt2 (h1 := hfk2) (h0 := hf02) hp60), OwnH.nil, by simp, hE⟩) | (have hi9 : i = (pushL l m B.ends.length).length := (by omega); subst hi9; rw [List.take_length] at hO; exact ⟨_, _, _, _, rfl, .yes ⟨⟨hp18, hg23⟩, by omega, fun j hj => hJ j (by omega) hj⟩ rfl, hO.up (by omega) (Nat.le_refl _), by omega, hE⟩)
    · have hg23 := not_false hg24
      refine WL_qg rfl rfl hg24 rfl (ev_move rfl) ?_
      refine WL_qg rfl rfl hg24 rfl (ev_len Try.underlying23 rfl) ?_
      refine WL_qg rfl rfl hg24 rfl (ev_fieldAddr fo31_0 rfl) ?_
      refine WL_qg rfl rfl hg24 rfl (ev_load one29 rfl (hB4.cell rfl)) ?_
      refine WL_qg rfl rfl hg24 rfl (ev_len Try.underlying29 rfl) ?_
      refine WL_qg rfl rfl hg24 rfl (ev_neq rfl rfl) ?_
      refine WL_q rfl (ev_pick_f rfl hg24 rfl) ?_
      refine WL_nil ?_
      refine thenE_n ?_
      refine W_cond rfl (fun hg32 => ?_) (fun hg32 => ?_)
      · have hp32 := of_decide_eq_true hg32
        refine W_seq ?_
        refine W_region ?_
        refine WL_q rfl (ev_assign rfl) ?_
        refine WL_q rfl (ev_assign rfl) ?_
        refine WL_nil ?_
        refine thenE_n ?_
        refine W_ret ?_
        refine thenE_r ?_
        refine ret2 rfl rfl rfl ?_
        first | (exact ⟨none, 0, [], _, rfl, .no (fun h => hp18 h.1.1), OwnH.nil, by simp, hE⟩) | (exact ⟨none, 0, [], _, rfl, .no (fun h => tf hg23 h.1.2), OwnH.nil, by simp, hE⟩) | (exact ⟨none, 0, [], _, rfl, .no (fun h => hp32 h.2.1), OwnH.nil, by simp, hE⟩) | (exact ⟨none, 0, [], _, rfl, .no (fun h => pushR_no (h.2.2 i hlt) hlt2 (h1 := hfk2) (h0 := hf02) hp60), OwnH.nil, by simp, hE⟩) | (have hi9 : i = (pushL l m B.ends.length).length := (by omega); subst hi9; rw [List.take_length] at hO; exact ⟨_, _, _, _, rfl, .yes ⟨⟨hp18, hg23⟩, by omega, fun j hj => hJ j (by omega) hj⟩ rfl, hO.up (by omega) (Nat.le_refl _), by omega, hE⟩)
      · have hp32 := of_decide_eq_false hg32
        refine W_skip ?_
        refine thenE_n ?_
        refine W_seq ?_
        refine W_region ?_
        refine WL_q rfl (ev_assign rfl) ?_
        refine WL_nil ?_
        refine thenE_n ?_
        refine W_seq ?_
        refine W_seq ?_
        refine W_region ?_
        refine WL_q rfl (ev_move rfl) ?_
        refine WL_q rfl (ev_fieldAddr fo31_0 rfl) ?_
        refine WL_q rfl (ev_load one29 rfl (hB5.cell rfl)) ?_
        refine WL_q rfl (ev_len Try.underlying29 rfl) ?_
        refine WL_m rfl (ev_call rfl (fibres_spec _ _ m B.ends.length _ hm (by omega) (fun x hx => allR_true.1 hp18.2.2.rng x hx) (by omega) (by omega))) ?_
        rintro _ w38 ⟨b38, rfl, hR38, hE38⟩
        have hz38 := hE38.size
        replace hE := hE.trans hE38
        replace hA := hA.ext hE38
        replace hB := hB.ext hE38
        replace hm := hm.ext hE38
        replace hl := hl.ext hE38
        replace hB4 := hB4.ext hE38
        replace hB5 := hB5.ext hE38
        have hfl := fibs_len m B.ends.length
        have hI38 := hR38.is (c := B.ends.length) (by omega)
        have hml := hp18.2.2.len
        have hndA := hp18.1.nodes
        refine WL_q rfl (ev_len Try.underlying47 rfl) ?_
        refine WL_q rfl (ev_move rfl) ?_
        refine WL_nil ?_
        refine thenE_n ?_
        refine W_block ?_
        refine W_loopC (G := Nat × Option Addr × Nat) [(3, _), (38, _), (39, _)] ((Subs.c rfl (Subs.c rfl (Subs.c rfl Subs.n)))) (fun ⟨i, a, c⟩ => [(10, .slice a i c), (40, VI (i : Int))]) (fun ⟨i, a, c⟩ w' => Ext w38 w' ∧ i ≤ B.ends.length ∧ OwnH w38.heap.size w'.heap.size 0 0 w' 3 1 a i c (((pushL l m B.ends.length).take i).map VI) ∧ ∀ j (_h : j < i) (h2 : j < (fibs m B.ends.length).length), PushR l (fibs m B.ends.length)[j]) (fun g => B.ends.length - g.1) (0, none, 0) ((Subs.c rfl (Subs.c (lkI rfl (by omega)) Subs.n))) (⟨Ext.refl _, ⟨Nat.zero_le _, OwnH.nil, fun j h => by omega⟩⟩) ?_
        rintro ⟨i, a, c⟩ wL0 ⟨hRL0, hi', hO, hJ⟩
        have hzL0 := hRL0.size
        replace hE := hE.trans hRL0
        replace hA := hA.ext hRL0
        replace hB := hB.ext hRL0
        replace hm := hm.ext hRL0
        replace hl := hl.ext hRL0
        replace hB4 := hB4.ext hRL0
        replace hB5 := hB5.ext hRL0
        replace hI38 := hI38.ext hRL0
        refine W_seq ?_
        refine W_region ?_
        refine WL_q rfl (ev_lss rfl rfl) ?_
        refine WL_nil ?_
        refine thenE_n ?_
        refine W_seq ?_
        refine W_cond rfl (fun hg41 => ?_) (fun hg41 => ?_)
        · have hp41 := of_decide_eq_true hg41
          refine W_skip ?_
          refine thenE_n ?_
          refine W_seq ?_
          refine W_block ?_
          refine W_seq ?_
          refine W_region ?_
          have hlt : i < (fibs m B.ends.length).length := by omega
          have hpos := onto_pos hg23 hlt
          have hfr := fibs_row hlt
          obtain ⟨hf01, hf02q⟩ := fibs_at hlt hpos
          have hf02 : ((fibs m B.ends.length)[i][0]).toNat < l.length := by omega
          have hl42 : i < (fibs m B.ends.length).length := by omega
          have ht42 := totL_le hl42
          obtain ⟨a42, c42, hc42, hr42⟩ := hI38.row hl42
          refine WL_q rfl (ev_indexAddr Try.underlying47 sz23 rfl rfl (hI38.isSome (by omega)) (by omega) (by omega)) ?_
          refine WL_q rfl (ev_load one23 rfl (hc42)) ?_
          refine WL_q rfl (ev_assign rfl) ?_
          refine WL_nil ?_
          refine thenE_n ?_
          refine W_seq ?_
          refine W_seq ?_
          refine W_region ?_
          refine WL_q rfl (ev_move rfl) ?_
          refine WL_q rfl (ev_len Try.underlying23 rfl) ?_
          refine WL_q rfl (ev_move rfl) ?_
          refine WL_nil ?_
          refine thenE_n ?_
          refine W_block ?_
          refine W_loopC (G := Nat) [(3, _), (10, _), (12, _), (38, _), (39, _), (40, _), (44, _), (45, _)] ((Subs.c rfl (Subs.c rfl (Subs.c rfl (Subs.c rfl (Subs.c rfl (Subs.c rfl (Subs.c rfl (Subs.c rfl Subs.n))))))))) (fun k => [(46, VI (k : Int))]) (fun k w' => Ext wL0 w' ∧ k ≤ (fibs m B.ends.length)[i].length ∧ ∀ j (_h : j < k) (h2 : j < (fibs m B.ends.length)[i].length), l.getD ((fibs m B.ends.length)[i].getD j 0).toNat 0 = l.getD ((fibs m B.ends.length)[i].getD 0 0).toNat 0) (fun k => (fibs m B.ends.length)[i].length - k) 0 ((Subs.c (lkI rfl (by omega)) Subs.n)) (⟨Ext.refl _, ⟨Nat.zero_le _, fun j h => by omega⟩⟩) ?_
          rintro k wL2 ⟨hRL2, hk', hJ2⟩
          have hzL2 := hRL2.size
          replace hE := hE.trans hRL2
          replace hRL0 := hRL0.trans hRL2
          replace hA := hA.ext hRL2
          replace hB := hB.ext hRL2
          replace hm := hm.ext hRL2
          replace hl := hl.ext hRL2
          replace hB4 := hB4.ext hRL2
          replace hB5 := hB5.ext hRL2
          replace hI38 := hI38.ext hRL2
          replace hO := hO.ext hRL2
          replace hr42 := hr42.ext hRL2
          refine W_seq ?_
          refine W_region ?_
          refine WL_q rfl (ev_lss rfl rfl) ?_
          refine WL_nil ?_
          refine thenE_n ?_
          refine W_seq ?_
          refine W_cond rfl (fun hg47 => ?_) (fun hg47 => ?_)
          · have hp47 := of_decide_eq_true hg47
            refine W_skip ?_
            refine thenE_n ?_
            refine W_seq ?_
            refine W_block ?_
            refine W_seq ?_
            refine W_region ?_
            have hlt2 : k < (fibs m B.ends.length)[i].length := by omega
            obtain ⟨hfk1, hfk2q⟩ := fibs_at hlt hlt2
            have hfk2 : ((fibs m B.ends.length)[i][k]).toNat < l.length := by omega
            refine WL_q rfl (ev_indexAddr Try.underlying23 sz3 rfl rfl (hr42.isSome (by omega)) (by omega) (by omega)) ?_
            refine WL_q rfl (ev_load one3 rfl (hr42.cell (i := k) (by omega))) ?_
            refine WL_q rfl (ev_assign rfl) ?_
            refine WL_nil ?_
            refine thenE_n ?_
            refine W_seq ?_
            refine W_drawE [(0, true), (1, true), (2, true), (3, true), (4, true), (5, true), (6, true), (7, true), (8, true), (9, true), (10, true)] mixed (by kernel_rfl) rfl (by kernel_rfl) ?_
            intro wd10 hEd10 hzd10
            replace hE := hE.trans hEd10
            replace hRL0 := hRL0.trans hEd10
            replace hRL2 := hRL2.trans hEd10
            replace hA := hA.ext hEd10
            replace hB := hB.ext hEd10
            replace hm := hm.ext hEd10
            replace hl := hl.ext hEd10
            replace hB4 := hB4.ext hEd10
            replace hB5 := hB5.ext hEd10
            replace hI38 := hI38.ext hEd10
            replace hO := hO.ext hEd10
            replace hr42 := hr42.ext hEd10
            have hDd10 := Ext.refl wd10
            refine PW_q rfl rfl (fun wq hq => ev_move rfl) ?_
            refine PW_q rfl rfl (fun wq hq => ev_move rfl) ?_
            refine PW_q rfl rfl (fun wq hq => ev_indexAddr Try.underlying23 sz3 rfl rfl (hl.isSome (by omega)) (by omega) (by omega)) ?_
            have hc53 := hl.cell (i := ((fibs m B.ends.length)[i][k]).toNat) (by omega)
            refine PW_q rfl rfl (fun wq hq => ev_load one3 rfl (hq.cell (hc53))) ?_
            refine PW_q rfl rfl (fun wq hq => ev_move rfl) ?_
            refine PW_q rfl rfl (fun wq hq => ev_move rfl) ?_
            refine PW_q rfl rfl (fun wq hq => ev_indexAddr Try.underlying23 sz3 rfl rfl (hr42.isSome (by omega)) (by omega) (by omega)) ?_
            have hc57 := hr42.cell (i := 0) (by omega)
            refine PW_q rfl rfl (fun wq hq => ev_load one3 rfl (hq.cell (hc57))) ?_
            refine PW_q rfl rfl (fun wq hq => ev_indexAddr Try.underlying23 sz3 rfl rfl (hl.isSome (by omega)) (by omega) (by omega)) ?_
            have hc59 := hl.cell (i := ((fibs m B.ends.length)[i][0]).toNat) (by omega)
            refine PW_q rfl rfl (fun wq hq => ev_load one3 rfl (hq.cell (hc59))) ?_
            refine PW_q rfl rfl (fun wq hq => ev_neq rfl rfl) ?_
            refine PW_nil ?_
            refine thenE_n ?_
            refine W_cond rfl (fun hg60 => ?_) (fun hg60 => ?_)
            · have hp60 := of_decide_eq_true hg60
              refine W_seq ?_
              refine W_region ?_
              refine WL_q rfl (ev_assign rfl) ?_
              refine WL_q rfl (ev_assign rfl) ?_
              refine WL_nil ?_
              refine thenE_n ?_
              refine W_ret ?_
              refine blockE_r ?_
              refine thenE_r ?_
              refine thenE_r ?_
              refine blockE_r ?_
              refine thenE_r ?_
              refine blockE_r ?_
              refine thenE_r ?_
              refine thenE_r ?_
              refine blockE_r ?_
              refine thenE_r ?_
              refine ret2 rfl rfl rfl ?_
              first | (exact ⟨none, 0, [], _, rfl, .no (fun h => hp18 h.1.1), OwnH.nil, by simp, hE⟩) | (exact ⟨none, 0, [], _, rfl, .no (fun h => tf hg23 h.1.2), OwnH.nil, by simp, hE⟩) | (exact ⟨none, 0, [], _, rfl, .no (fun h => hp32 h.2.1), OwnH.nil, by simp, hE⟩) | (exact ⟨none, 0, [], _, rfl, .no (fun h => pushR_no (h.2.2 i hlt) hlt2 (h1 := hfk2) (h0 := hf02) hp60), OwnH.nil, by simp, hE⟩) | (have hi9 : i = (pushL l m B.ends.length).length := (by omega); subst hi9; rw [List.take_length] at hO; exact ⟨_, _, _, _, rfl, .yes ⟨⟨hp18, hg23⟩, by omega, fun j hj => hJ j (by omega) hj⟩ rfl, hO.up (by omega) (Nat.le_refl _), by omega, hE⟩)
            · have hp60 := of_decide_eq_false hg60
              refine W_skip ?_
              refine blockE_n ?_
              refine thenE_n ?_
              refine W_region ?_
              refine WL_q rfl (ev_add rfl rfl (by omega)) ?_
              refine WL_q rfl (ev_move rfl) ?_
              refine WL_nil ?_
              refine thenE_n ?_
              exact ⟨k + 1, (Subs.c rfl (Subs.c rfl (Subs.c rfl (Subs.c rfl (Subs.c rfl (Subs.c rfl (Subs.c rfl (Subs.c rfl Subs.n)))))))), (Subs.c (lkI rfl (by omega)) Subs.n), ⟨hRL2, ⟨by omega, dsucc (P := fun j h2 => l.getD ((fibs m B.ends.length)[i].getD j 0).toNat 0 = l.getD ((fibs m B.ends.length)[i].getD 0 0).toNat 0) hJ2 hlt2 ((pushR_at hlt2 hfk2 hf02).2 (by omega))⟩⟩, by first | omega | (dsimp only; omega)⟩
          · have hp47 := of_decide_eq_false hg47
            refine W_exit ?_
            refine thenE_x ?_
            refine thenE_x ?_
            refine blockE_hit ?_
            refine thenE_n ?_
            refine W_region ?_
            refine WL_q rfl (ev_move rfl) ?_
            refine WL_q rfl (ev_move rfl) ?_
            refine WL_q rfl (ev_move rfl) ?_
            refine WL_q rfl (ev_indexAddr Try.underlying23 sz3 rfl rfl (hr42.isSome (by omega)) (by omega) (by omega)) ?_
            refine WL_q rfl (ev_load one3 rfl (hr42.cell (i := 0) (by omega))) ?_
            refine WL_q rfl (ev_indexAddr Try.underlying23 sz3 rfl rfl (hl.isSome (by omega)) (by omega) (by omega)) ?_
            refine WL_q rfl (ev_load one3 rfl (hl.cell (i := ((fibs m B.ends.length)[i][0]).toNat) (by omega))) ?_
            refine WL_m rfl (ev_lit1 Try.underlying23 el3 (by decide) (by decide) rfl rfl) ?_
            rintro _ w69 ⟨rfl, hN69⟩
            have hz69 := hN69.size
            replace hE := hE.trans hN69.ext
            replace hRL0 := hRL0.trans hN69.ext
            replace hA := hA.ext hN69.ext
            replace hB := hB.ext hN69.ext
            replace hm := hm.ext hN69.ext
            replace hl := hl.ext hN69.ext
            replace hB4 := hB4.ext hN69.ext
            replace hB5 := hB5.ext hN69.ext
            replace hI38 := hI38.ext hN69.ext
            replace hO := hO.ext hN69.ext
            replace hr42 := hr42.ext hN69.ext
            have hB69 := hN69.blk
            refine WL_m rfl (ev_appendT Try.underlying23 el3 rfl (by decide) rfl rfl hO (SAt.of_blk (cs := [_]) (ds := []) hB69) rfl (by simp [Value.oneCell']) (by omega) (by unfold maxLen; omega) (by omega)) ?_
            rintro _ w70 ⟨a70, c70, rfl, hO70, hK70, hQ70⟩
            have hz70 := hK70.size
            replace hE := hE.rg hK70 (by omega)
            replace hRL0 := hRL0.rg hK70 (by omega)
            replace hA := hA.rg hK70 (by omega)
            replace hB := hB.rg hK70 (by omega)
            replace hm := hm.rg hK70 (by omega)
            replace hl := hl.rg hK70 (by omega)
            replace hB4 := hB4.rg hK70 (by omega)
            replace hB5 := hB5.rg hK70 (by omega)
            replace hI38 := hI38.rg hK70 (by omega)
            replace hr42 := hr42.rg hK70 (by omega)
            replace hB69 := hB69.rg hK70 (by omega)
            replace hO := hO70
            replace hO := ownt_snocI hO
            refine WL_q rfl (ev_assign rfl) ?_
            refine WL_nil ?_
            refine blockE_n ?_
            refine thenE_n ?_
            refine W_region ?_
            refine WL_q rfl (ev_add rfl rfl (by omega)) ?_
            refine WL_q rfl (ev_move rfl) ?_
            refine WL_nil ?_
            refine thenE_n ?_
            exact ⟨(i + 1, a70, c70), (Subs.c rfl (Subs.c rfl (Subs.c rfl Subs.n))), (Subs.c rfl (Subs.c (lkI rfl (by omega)) Subs.n)), ⟨hRL0, ⟨by omega, (ownt_take hO (by omega) (pushL_at hlt hpos hf02 (by omega))).up (Nat.le_refl _) (by omega), dsucc (P := fun j h2 => PushR l (fibs m B.ends.length)[j]) hJ hlt (fun j hj => hJ2 j (by omega) hj)⟩⟩, by first | omega | (dsimp only; omega)⟩
        · have hp41 := of_decide_eq_false hg41
          refine W_exit ?_
          refine thenE_x ?_
          refine thenE_x ?_
          refine blockE_hit ?_
          refine thenE_n ?_
          refine W_seq ?_
          refine W_region ?_
          refine WL_q rfl (ev_move rfl) ?_
          refine WL_q rfl (ev_assign rfl) ?_
          refine WL_q rfl (ev_assign rfl) ?_
          refine WL_nil ?_
          refine thenE_n ?_
          refine W_ret ?_
          refine ret2 rfl rfl rfl ?_
          first | (exact ⟨none, 0, [], _, rfl, .no (fun h => hp18 h.1.1), OwnH.nil, by simp, hE⟩) | (exact ⟨none, 0, [], _, rfl, .no (fun h => tf hg23 h.1.2), OwnH.nil, by simp, hE⟩) | (exact ⟨none, 0, [], _, rfl, .no (fun h => hp32 h.2.1), OwnH.nil, by simp, hE⟩) | (exact ⟨none, 0, [], _, rfl, .no (fun h => pushR_no (h.2.2 i hlt) hlt2 (h1 := hfk2) (h0 := hf02) hp60), OwnH.nil, by simp, hE⟩) | (have hi9 : i = (pushL l m B.ends.length).length := (by omega); subst hi9; rw [List.take_length] at hO; exact ⟨_, _, _, _, rfl, .yes ⟨⟨hp18, hg23⟩, by omega, fun j hj => hJ j (by omega) hj⟩ rfl, hO.up (by omega) (Nat.le_refl _), by omega, hE⟩)

set_option maxHeartbeats 8000000 in
set_option maxRecDepth 100000 in
theorem law_PushNodes (nA : NA) (A : Net) (nB : NA) (B : Net) (am : Option Addr) (cm : Nat) (m : List Int) (al : Option Addr) (cl : Nat) (l : List Int) (w : World) (hA : IsNet 0 w.heap.size w nA A) (hsA : SmN A) (hB : IsNet 0 w.heap.size w nB B) (hsB : SmN B) (hm : Ints 0 w.heap.size w am cm m) (hl : Ints 0 w.heap.size w al cl l) :
    Fn Try.prog 13 #[netV nA A, netV nB B, .slice am m.length cm, .slice al l.length cl] w (fun v w' => v = VB true ∧ Ext w w') := by
  have hE := Ext.refl w
  refine Fn_of Try.func13 rfl rfl (by kernel_rfl) rfl ?_
  refine W_seq ?_
  refine W_region ?_
  refine WL_m rfl (ev_box rfl) ?_
  rintro _ w4 ⟨rfl, hN4⟩
  have hz4 := hN4.size
  replace hE := hE.trans hN4.ext
  replace hA := hA.ext hN4.ext
  replace hB := hB.ext hN4.ext
  replace hm := hm.ext hN4.ext
  replace hl := hl.ext hN4.ext
  have hB4 : Blk w4 _ _ [_, _, _] := hN4.blk
  refine WL_m rfl (ev_box rfl) ?_
  rintro _ w5 ⟨rfl, hN5⟩
  have hz5 := hN5.size
  replace hE := hE.trans hN5.ext
  replace hA := hA.ext hN5.ext
  replace hB := hB.ext hN5.ext
  replace hm := hm.ext hN5.ext
  replace hl := hl.ext hN5.ext
  replace hB4 := hB4.ext hN5.ext
  have hB5 : Blk w5 _ _ [_, _, _] := hN5.blk
  refine WL_q rfl (ev_assign rfl) ?_
  refine WL_nil ?_
  refine thenE_n ?_
  refine W_seq ?_
  refine W_seq ?_
  refine W_region ?_
  refine WL_q rfl (ev_move rfl) ?_
  refine WL_q rfl (ev_len Try.underlying23 rfl) ?_
  refine WL_q rfl (ev_gtr rfl rfl) ?_
  refine WL_nil ?_
  refine thenE_n ?_
  refine W_cond rfl (fun hg25 => ?_) (fun hg25 => ?_)
  · have hp25 := of_decide_eq_true hg25
    refine W_seq ?_
    refine W_region ?_
    refine WL_q rfl (ev_assign rfl) ?_
    refine WL_nil ?_
    refine thenE_n ?_
    refine W_ret ?_
    refine thenE_r ?_
    refine ret1 rfl rfl ?_
    first | (exact ⟨rfl, hE⟩) | (exact (tfX hg25).elim) | (exact (decF hg25).elim) | (exfalso; omega)
  · have hp25 := of_decide_eq_false hg25
    refine W_skip ?_
    refine thenE_n ?_
    refine W_seq ?_
    refine W_seq ?_
    refine W_region ?_
    refine WL_q rfl (ev_move rfl) ?_
    refine WL_q rfl (ev_len Try.underlying23 rfl) ?_
    refine WL_q rfl (ev_gtr rfl rfl) ?_
    refine WL_nil ?_
    refine thenE_n ?_
    refine W_cond rfl (fun hg28 => ?_) (fun hg28 => ?_)
    · have hp28 := of_decide_eq_true hg28
      refine W_seq ?_
      refine W_region ?_
      refine WL_q rfl (ev_assign rfl) ?_
      refine WL_nil ?_
      refine thenE_n ?_
      refine W_ret ?_
      refine thenE_r ?_
      refine ret1 rfl rfl ?_
      first | (exact ⟨rfl, hE⟩) | (exact (tfX hg28).elim) | (exact (decF hg28).elim) | (exfalso; omega)
    · have hp28 := of_decide_eq_false hg28
      refine W_skip ?_
      refine thenE_n ?_
      refine W_seq ?_
      refine W_region ?_
      refine WL_q rfl (ev_assign rfl) ?_
      refine WL_nil ?_
      refine thenE_n ?_
      refine W_seq ?_
      refine W_region ?_
      refine WL_q rfl (ev_loads st25 sz25 rfl (cellsB hB4) rfl) ?_
      refine WL_q rfl (ev_move rfl) ?_
      refine WL_m rfl (ev_call rfl (szNetwork_spec _ A _ _ hA (by omega) hsA)) ?_
      rintro _ w31 ⟨r31, rfl, hE31, hr31⟩
      have hz31 := hE31.size
      replace hE := hE.trans hE31
      replace hA := hA.ext hE31
      replace hB := hB.ext hE31
      replace hm := hm.ext hE31
      replace hl := hl.ext hE31
      replace hB4 := hB4.ext hE31
      replace hB5 := hB5.ext hE31
      refine WL_q rfl (ev_assign rfl) ?_
      refine WL_nil ?_
      refine thenE_n ?_
      refine W_seq ?_
      refine W_seq ?_
      refine W_region ?_
      refine WL_q rfl (ev_move rfl) ?_
      refine WL_q rfl (ev_lss rfl rfl) ?_
      refine WL_nil ?_
      refine thenE_n ?_
      refine W_cond rfl (fun hg33 => ?_) (fun hg33 => ?_)
      · have hp33 := of_decide_eq_true hg33
        refine W_seq ?_
        refine W_region ?_
        refine WL_q rfl (ev_assign rfl) ?_
        refine WL_nil ?_
        refine thenE_n ?_
        refine W_ret ?_
        refine thenE_r ?_
        refine ret1 rfl rfl ?_
        first | (exact ⟨rfl, hE⟩) | (exact (tfX hg33).elim) | (exact (decF hg33).elim) | (exfalso; omega)
      · have hp33 := of_decide_eq_false hg33
        refine W_skip ?_
        refine thenE_n ?_
        refine W_seq ?_
        refine W_region ?_
        refine WL_q rfl (ev_loads st25 sz25 rfl (cellsB hB5) rfl) ?_
        refine WL_q rfl (ev_move rfl) ?_
        refine WL_m rfl (ev_call rfl (szNetwork_spec _ B _ _ hB (by omega) hsB)) ?_
        rintro _ w36 ⟨r36, rfl, hE36, hr36⟩
        have hz36 := hE36.size
        replace hE := hE.trans hE36
        replace hA := hA.ext hE36
        replace hB := hB.ext hE36
        replace hm := hm.ext hE36
        replace hl := hl.ext hE36
        replace hB4 := hB4.ext hE36
        replace hB5 := hB5.ext hE36
        refine WL_q rfl (ev_assign rfl) ?_
        refine WL_nil ?_
        refine thenE_n ?_
        refine W_seq ?_
        refine W_seq ?_
        refine W_region ?_
        refine WL_q rfl (ev_move rfl) ?_
        refine WL_q rfl (ev_lss rfl rfl) ?_
        refine WL_nil ?_
        refine thenE_n ?_
        refine W_cond rfl (fun hg38 => ?_) (fun hg38 => ?_)
        · have hp38 := of_decide_eq_true hg38
          refine W_seq ?_
          refine W_region ?_
          refine WL_q rfl (ev_assign rfl) ?_
          refine WL_nil ?_
          refine thenE_n ?_
          refine W_ret ?_
          refine thenE_r ?_
          refine ret1 rfl rfl ?_
          first | (exact ⟨rfl, hE⟩) | (exact (tfX hg38).elim) | (exact (decF hg38).elim) | (exfalso; omega)
        · have hp38 := of_decide_eq_false hg38
          refine W_skip ?_
          refine thenE_n ?_
          refine W_seq ?_
          refine W_drawE [(0, true), (2, true), (4, true), (6, true), (1, false), (3, false), (5, false), (7, false), (8, false), (9, true), (10, true), (11, true), (12, true), (13, true)] mixed (by kernel_rfl) rfl (by kernel_rfl) ?_
          intro wd12 hEd12 hzd12
          replace hE := hE.trans hEd12
          replace hA := hA.ext hEd12
          replace hB := hB.ext hEd12
          replace hm := hm.ext hEd12
          replace hl := hl.ext hEd12
          replace hB4 := hB4.ext hEd12
          replace hB5 := hB5.ext hEd12
          have hDd12 := Ext.refl wd12
          refine PW_q rfl rfl (fun wq hq => ev_loads st25 sz25 rfl (cellsB (hq.blk hB4)) rfl) ?_
          refine PW_q rfl rfl (fun wq hq => ev_loads st25 sz25 rfl (cellsB (hq.blk hB5)) rfl) ?_
          refine PW_q rfl rfl (fun wq hq => ev_move rfl) ?_
          refine PW_q rfl rfl (fun wq hq => ev_move rfl) ?_
          refine PW_m rfl rfl (ev_call rfl (toNetwork_spec _ A _ hA (by omega) (by omega))) ?_
          rintro _ w41 ⟨h41, rfl, hF41, hE41⟩
          have hz41 := hE41.size
          replace hE := hE.trans hE41
          replace hDd12 := hDd12.trans hE41
          have hN41 := hF41.is
          refine ⟨hDd12, ?_⟩
          have hA_3 := hA.ext hDd12
          have hB_3 := hB.ext hDd12
          have hm_3 := hm.ext hDd12
          have hl_3 := hl.ext hDd12
          have hB4_3 := hB4.ext hDd12
          have hB5_3 := hB5.ext hDd12
          refine PW_m rfl rfl (ev_call rfl (toNetwork_spec _ B _ hB_3 (by omega) (by omega))) ?_
          rintro _ w43 ⟨h43, rfl, hF43, hE43⟩
          have hz43 := hE43.size
          replace hE := hE.trans hE43
          replace hDd12 := hDd12.trans hE43
          replace hF41 := hF41.ext hE43
          replace hN41 := hN41.ext hE43
          have hN43 := hF43.is
          refine ⟨hDd12, ?_⟩
          have hA_5 := hA.ext hDd12
          have hB_5 := hB.ext hDd12
          have hm_5 := hm.ext hDd12
          have hl_5 := hl.ext hDd12
          have hB4_5 := hB4.ext hDd12
          have hB5_5 := hB5.ext hDd12
          refine PW_m rfl rfl (ev_call rfl (toIntS_spec _ _ m _ hm_5 (by omega) (by omega))) ?_
          rintro _ w45 ⟨a45, rfl, hF45, hE45⟩
          have hz45 := hE45.size
          replace hE := hE.trans hE45
          replace hDd12 := hDd12.trans hE45
          replace hF41 := hF41.ext hE45
          replace hN41 := hN41.ext hE45
          replace hF43 := hF43.ext hE45
          replace hN43 := hN43.ext hE45
          have hI45 := hF45.is
          refine ⟨hDd12, ?_⟩
          have hA_7 := hA.ext hDd12
          have hB_7 := hB.ext hDd12
          have hm_7 := hm.ext hDd12
          have hl_7 := hl.ext hDd12
          have hB4_7 := hB4.ext hDd12
          have hB5_7 := hB5.ext hDd12
          refine PW_m rfl rfl (ev_call rfl (toIntS_spec _ _ l _ hl_7 (by omega) (by omega))) ?_
          rintro _ w47 ⟨a47, rfl, hF47, hE47⟩
          have hz47 := hE47.size
          replace hE := hE.trans hE47
          replace hDd12 := hDd12.trans hE47
          replace hF41 := hF41.ext hE47
          replace hN41 := hN41.ext hE47
          replace hF43 := hF43.ext hE47
          replace hN43 := hN43.ext hE47
          replace hF45 := hF45.ext hE47
          replace hI45 := hI45.ext hE47
          have hI47 := hF47.is
          refine ⟨hDd12, ?_⟩
          have hA_8 := hA.ext hDd12
          have hB_8 := hB.ext hDd12
          have hm_8 := hm.ext hDd12
          have hl_8 := hl.ext hDd12
          have hB4_8 := hB4.ext hDd12
          have hB5_8 := hB5.ext hDd12
          refine PW_m rfl rfl (ev_call rfl (sPushNodes_spec _ A _ B _ _ m _ _ l _ hN41 (by omega) (by omega) hN43 (by omega) (by omega) hI45 (by omega) (by omega) hI47 (by omega) (by omega))) ?_
          rintro _ w48 ⟨a48, c48, y48, q48, rfl, hr48, hx48, hl48, hE48⟩
          have hz48 := hE48.size
          replace hE := hE.trans hE48
          replace hDd12 := hDd12.trans hE48
          replace hF41 := hF41.ext hE48
          replace hN41 := hN41.ext hE48
          replace hF43 := hF43.ext hE48
          replace hN43 := hN43.ext hE48
          replace hF45 := hF45.ext hE48
          replace hI45 := hI45.ext hE48
          replace hF47 := hF47.ext hE48
          replace hI47 := hI47.ext hE48
          refine ⟨hDd12, ?_⟩
          refine PW_q rfl rfl (fun wq hq => ev_move rfl) ?_
          refine PW_q rfl rfl (fun wq hq => ev_extract rfl rfl) ?_
          refine PW_q rfl rfl (fun wq hq => ev_extract rfl rfl) ?_
          refine PW_q rfl rfl (fun wq hq => ev_assign rfl) ?_
          refine PW_q rfl rfl (fun wq hq => ev_assign rfl) ?_
          replace hA := hA.ext hDd12
          replace hB := hB.ext hDd12
          replace hm := hm.ext hDd12
          replace hl := hl.ext hDd12
          replace hB4 := hB4.ext hDd12
          replace hB5 := hB5.ext hDd12
          refine PW_nil ?_
          refine thenE_n ?_
          refine W_seq ?_
          refine W_region ?_
          refine WL_q rfl (ev_loads st25 sz25 rfl (cellsB hB4) rfl) ?_
          refine WL_m rfl (ev_call rfl (toNetwork_spec _ A _ hA (by omega) (by omega))) ?_
          rintro _ w52 ⟨h52, rfl, hF52, hE52⟩
          have hz52 := hE52.size
          replace hE := hE.trans hE52
          replace hA := hA.ext hE52
          replace hB := hB.ext hE52
          replace hm := hm.ext hE52
          replace hl := hl.ext hE52
          replace hB4 := hB4.ext hE52
          replace hB5 := hB5.ext hE52
          replace hF41 := hF41.ext hE52
          replace hN41 := hN41.ext hE52
          replace hF43 := hF43.ext hE52
          replace hN43 := hN43.ext hE52
          replace hF45 := hF45.ext hE52
          replace hI45 := hI45.ext hE52
          replace hF47 := hF47.ext hE52
          replace hI47 := hI47.ext hE52
          replace hx48 := hx48.ext hE52
          have hN52 := hF52.is
          refine WL_m rfl (ev_alloc zr31) ?_
          rintro _ w12 ⟨rfl, hN12⟩
          have hz12 := hN12.size
          replace hE := hE.trans hN12.ext
          replace hA := hA.ext hN12.ext
          replace hB := hB.ext hN12.ext
          replace hm := hm.ext hN12.ext
          replace hl := hl.ext hN12.ext
          replace hB4 := hB4.ext hN12.ext
          replace hB5 := hB5.ext hN12.ext
          replace hF41 := hF41.ext hN12.ext
          replace hN41 := hN41.ext hN12.ext
          replace hF43 := hF43.ext hN12.ext
          replace hN43 := hN43.ext hN12.ext
          replace hF45 := hF45.ext hN12.ext
          replace hI45 := hI45.ext hN12.ext
          replace hF47 := hF47.ext hN12.ext
          replace hI47 := hI47.ext hN12.ext
          replace hx48 := hx48.ext hN12.ext
          replace hF52 := hF52.ext hN12.ext
          replace hN52 := hN52.ext hN12.ext
          have hB12 : Blk w12 _ _ [_, _, _] := hN12.blk
          refine WL_s (ev_stores sz31 rfl rfl rfl (by simp [Value.oneCell']) hB12 (by simp)) ?_
          rintro _ w13_3 hS13_3
          have hz13_3 := hS13_3.size
          replace hE := hE.sto hS13_3 (by omega)
          replace hA := hA.sto hS13_3 (by omega)
          replace hB := hB.sto hS13_3 (by omega)
          replace hm := hm.sto hS13_3 (by omega)
          replace hl := hl.sto hS13_3 (by omega)
          replace hB4 := hB4.sto hS13_3 (by omega)
          replace hB5 := hB5.sto hS13_3 (by omega)
          replace hF41 := hF41.sto hS13_3 (by omega)
          replace hN41 := hN41.sto hS13_3 (by omega)
          replace hF43 := hF43.sto hS13_3 (by omega)
          replace hN43 := hN43.sto hS13_3 (by omega)
          replace hF45 := hF45.sto hS13_3 (by omega)
          replace hI45 := hI45.sto hS13_3 (by omega)
          replace hF47 := hF47.sto hS13_3 (by omega)
          replace hI47 := hI47.sto hS13_3 (by omega)
          replace hx48 := hx48.sto hS13_3 (by omega)
          replace hF52 := hF52.sto hS13_3 (by omega)
          replace hN52 := hN52.sto hS13_3 (by omega)
          replace hB12 : Blk w13_3 _ _ [_, _, _] := hS13_3.blk
          refine WL_nil ?_
          refine thenE_n ?_
          refine W_seq ?_
          refine W_region ?_
          refine WL_q rfl (ev_loads st25 sz25 rfl (cellsB hB5) rfl) ?_
          refine WL_m rfl (ev_call rfl (toNetwork_spec _ B _ hB (by omega) (by omega))) ?_
          rintro _ w54 ⟨h54, rfl, hF54, hE54⟩
          have hz54 := hE54.size
          replace hE := hE.trans hE54
          replace hA := hA.ext hE54
          replace hB := hB.ext hE54
          replace hm := hm.ext hE54
          replace hl := hl.ext hE54
          replace hB4 := hB4.ext hE54
          replace hB5 := hB5.ext hE54
          replace hF41 := hF41.ext hE54
          replace hN41 := hN41.ext hE54
          replace hF43 := hF43.ext hE54
          replace hN43 := hN43.ext hE54
          replace hF45 := hF45.ext hE54
          replace hI45 := hI45.ext hE54
          replace hF47 := hF47.ext hE54
          replace hI47 := hI47.ext hE54
          replace hx48 := hx48.ext hE54
          replace hF52 := hF52.ext hE54
          replace hN52 := hN52.ext hE54
          replace hB12 := hB12.ext hE54
          have hN54 := hF54.is
          refine WL_m rfl (ev_alloc zr31) ?_
          rintro _ w13 ⟨rfl, hN13⟩
          have hz13 := hN13.size
          replace hE := hE.trans hN13.ext
          replace hA := hA.ext hN13.ext
          replace hB := hB.ext hN13.ext
          replace hm := hm.ext hN13.ext
          replace hl := hl.ext hN13.ext
          replace hB4 := hB4.ext hN13.ext
          replace hB5 := hB5.ext hN13.ext
          replace hF41 := hF41.ext hN13.ext
          replace hN41 := hN41.ext hN13.ext
          replace hF43 := hF43.ext hN13.ext
          replace hN43 := hN43.ext hN13.ext
          replace hF45 := hF45.ext hN13.ext
          replace hI45 := hI45.ext hN13.ext
          replace hF47 := hF47.ext hN13.ext
          replace hI47 := hI47.ext hN13.ext
          replace hx48 := hx48.ext hN13.ext
          replace hF52 := hF52.ext hN13.ext
          replace hN52 := hN52.ext hN13.ext
          replace hB12 := hB12.ext hN13.ext
          replace hF54 := hF54.ext hN13.ext
          replace hN54 := hN54.ext hN13.ext
          have hB13 : Blk w13 _ _ [_, _, _] := hN13.blk
          refine WL_s (ev_stores sz31 rfl rfl rfl (by simp [Value.oneCell']) hB13 (by simp)) ?_
          rintro _ w14_3 hS14_3
          have hz14_3 := hS14_3.size
          replace hE := hE.sto hS14_3 (by omega)
          replace hA := hA.sto hS14_3 (by omega)
          replace hB := hB.sto hS14_3 (by omega)
          replace hm := hm.sto hS14_3 (by omega)
          replace hl := hl.sto hS14_3 (by omega)
          replace hB4 := hB4.sto hS14_3 (by omega)
          replace hB5 := hB5.sto hS14_3 (by omega)
          replace hF41 := hF41.sto hS14_3 (by omega)
          replace hN41 := hN41.sto hS14_3 (by omega)
          replace hF43 := hF43.sto hS14_3 (by omega)
          replace hN43 := hN43.sto hS14_3 (by omega)
          replace hF45 := hF45.sto hS14_3 (by omega)
          replace hI45 := hI45.sto hS14_3 (by omega)
          replace hF47 := hF47.sto hS14_3 (by omega)
          replace hI47 := hI47.sto hS14_3 (by omega)
          replace hx48 := hx48.sto hS14_3 (by omega)
          replace hF52 := hF52.sto hS14_3 (by omega)
          replace hN52 := hN52.sto hS14_3 (by omega)
          replace hB12 := hB12.sto hS14_3 (by omega)
          replace hF54 := hF54.sto hS14_3 (by omega)
          replace hN54 := hN54.sto hS14_3 (by omega)
          replace hB13 : Blk w14_3 _ _ [_, _, _] := hS14_3.blk
          refine WL_nil ?_
          refine thenE_n ?_
          refine W_seq ?_
          refine W_region ?_
          refine WL_q rfl (ev_move rfl) ?_
          refine WL_m rfl (ev_call rfl (toIntS_spec _ _ m _ hm (by omega) (by omega))) ?_
          rintro _ w56 ⟨a56, rfl, hF56, hE56⟩
          have hz56 := hE56.size
          replace hE := hE.trans hE56
          replace hA := hA.ext hE56
          replace hB := hB.ext hE56
          replace hm := hm.ext hE56
          replace hl := hl.ext hE56
          replace hB4 := hB4.ext hE56
          replace hB5 := hB5.ext hE56
          replace hF41 := hF41.ext hE56
          replace hN41 := hN41.ext hE56
          replace hF43 := hF43.ext hE56
          replace hN43 := hN43.ext hE56
          replace hF45 := hF45.ext hE56
          replace hI45 := hI45.ext hE56
          replace hF47 := hF47.ext hE56
          replace hI47 := hI47.ext hE56
          replace hx48 := hx48.ext hE56
          replace hF52 := hF52.ext hE56
          replace hN52 := hN52.ext hE56
          replace hB12 := hB12.ext hE56
          replace hF54 := hF54.ext hE56
          replace hN54 := hN54.ext hE56
          replace hB13 := hB13.ext hE56
          have hI56 := hF56.is
          refine WL_q rfl (ev_assign rfl) ?_
          refine WL_nil ?_
          refine thenE_n ?_
          refine W_seq ?_
          refine W_region ?_
          refine WL_q rfl (ev_move rfl) ?_
          refine WL_m rfl (ev_call rfl (toIntS_spec _ _ l _ hl (by omega) (by omega))) ?_
          rintro _ w58 ⟨a58, rfl, hF58, hE58⟩
          have hz58 := hE58.size
          replace hE := hE.trans hE58
          replace hA := hA.ext hE58
          replace hB := hB.ext hE58
          replace hm := hm.ext hE58
          replace hl := hl.ext hE58
          replace hB4 := hB4.ext hE58
          replace hB5 := hB5.ext hE58
          replace hF41 := hF41.ext hE58
          replace hN41 := hN41.ext hE58
          replace hF43 := hF43.ext hE58
          replace hN43 := hN43.ext hE58
          replace hF45 := hF45.ext hE58
          replace hI45 := hI45.ext hE58
          replace hF47 := hF47.ext hE58
          replace hI47 := hI47.ext hE58
          replace hx48 := hx48.ext hE58
          replace hF52 := hF52.ext hE58
          replace hN52 := hN52.ext hE58
          replace hB12 := hB12.ext hE58
          replace hF54 := hF54.ext hE58
          replace hN54 := hN54.ext hE58
          replace hB13 := hB13.ext hE58
          replace hF56 := hF56.ext hE58
          replace hI56 := hI56.ext hE58
          have hI58 := hF58.is
          refine WL_q rfl (ev_assign rfl) ?_
          refine WL_nil ?_
          refine thenE_n ?_
          refine W_seq ?_
          refine W_region ?_
          refine WL_q rfl (ev_loads st31 sz31 rfl (cellsB hB12) rfl) ?_
          refine WL_q rfl (ev_loads st31 sz31 rfl (cellsB hB13) rfl) ?_
          refine WL_q rfl (ev_move rfl) ?_
          refine WL_q rfl (ev_move rfl) ?_
          refine WL_m rfl (ev_call rfl (PushNodes_spec _ A _ B _ _ m _ _ l _ hN52 (by omega) (by omega) hN54 (by omega) (by omega) hI56 (by omega) (by omega) hI58 (by omega) (by omega))) ?_
          rintro _ w64 ⟨a64, c64, y64, q64, rfl, hr64, hO64, hl64, hE64⟩
          have hz64 := hE64.size
          replace hE := hE.trans hE64
          replace hA := hA.ext hE64
          replace hB := hB.ext hE64
          replace hm := hm.ext hE64
          replace hl := hl.ext hE64
          replace hB4 := hB4.ext hE64
          replace hB5 := hB5.ext hE64
          replace hF41 := hF41.ext hE64
          replace hN41 := hN41.ext hE64
          replace hF43 := hF43.ext hE64
          replace hN43 := hN43.ext hE64
          replace hF45 := hF45.ext hE64
          replace hI45 := hI45.ext hE64
          replace hF47 := hF47.ext hE64
          replace hI47 := hI47.ext hE64
          replace hx48 := hx48.ext hE64
          replace hF52 := hF52.ext hE64
          replace hN52 := hN52.ext hE64
          replace hB12 := hB12.ext hE64
          replace hF54 := hF54.ext hE64
          replace hN54 := hN54.ext hE64
          replace hB13 := hB13.ext hE64
          replace hF56 := hF56.ext hE64
          replace hI56 := hI56.ext hE64
          replace hF58 := hF58.ext hE64
          replace hI58 := hI58.ext hE64
          refine WL_q rfl (ev_move rfl) ?_
          refine WL_q rfl (ev_extract rfl rfl) ?_
          refine WL_q rfl (ev_extract rfl rfl) ?_
          refine WL_q rfl (ev_assign rfl) ?_
          refine WL_q rfl (ev_assign rfl) ?_
          refine WL_nil ?_
          refine thenE_n ?_
          refine W_seq ?_
          refine W_seq ?_
          refine W_region ?_
          refine WL_q rfl (ev_move rfl) ?_
          refine WL_q rfl (ev_move rfl) ?_
          refine WL_m rfl (ev_call rfl (eqIntS_spec _ _ _ _ y64 y48 _ (ownt_i hO64) hx48 (by omega))) ?_
          rintro _ w69 ⟨rfl, hE69⟩
          have hz69 := hE69.size
          replace hE := hE.trans hE69
          replace hA := hA.ext hE69
          replace hB := hB.ext hE69
          replace hm := hm.ext hE69
          replace hl := hl.ext hE69
          replace hB4 := hB4.ext hE69
          replace hB5 := hB5.ext hE69
          replace hF41 := hF41.ext hE69
          replace hN41 := hN41.ext hE69
          replace hF43 := hF43.ext hE69
          replace hN43 := hN43.ext hE69
          replace hF45 := hF45.ext hE69
          replace hI45 := hI45.ext hE69
          replace hF47 := hF47.ext hE69
          replace hI47 := hI47.ext hE69
          replace hx48 := hx48.ext hE69
          replace hF52 := hF52.ext hE69
          replace hN52 := hN52.ext hE69
          replace hB12 := hB12.ext hE69
          replace hF54 := hF54.ext hE69
          replace hN54 := hN54.ext hE69
          replace hB13 := hB13.ext hE69
          replace hF56 := hF56.ext hE69
          replace hI56 := hI56.ext hE69
          replace hF58 := hF58.ext hE69
          replace hI58 := hI58.ext hE69
          replace hO64 := hO64.ext hE69
          refine WL_q rfl (ev_not rfl) ?_
          refine WL_q rfl (ev_move rfl) ?_
          refine WL_splitv (t := 71) rfl (fun hg70 => ?_) (fun hg70 => ?_)
          · have hg69 := not_true hg70
            refine WL_no rfl rfl hg70 rfl ?_
            refine WL_no rfl rfl hg70 rfl ?_
            refine WL_no rfl rfl hg70 rfl ?_
            refine WL_q rfl (ev_pick_t rfl hg70 rfl) ?_
            refine WL_nil ?_
            refine thenE_n ?_
            refine W_cond_t rfl ?_
            refine W_seq ?_
            refine W_region ?_
            refine WL_q rfl (ev_assign rfl) ?_
            refine WL_nil ?_
            refine thenE_n ?_
            refine W_ret ?_
            refine thenE_r ?_
            refine ret1 rfl rfl ?_
            first | (exact ⟨rfl, hE⟩) | (exact (bneE hg69 (hr64.det1 hr48)).elim) | (exact absurd (hr64.det1 hr48) hp69) | (exact absurd (hr64.det1 hr48) (of_decide_eq_false hg69)) | (exact (bneE hg69 (hr64.det2 hr48)).elim) | (exact absurd (hr64.det2 hr48) hp69) | (exact absurd (hr64.det2 hr48) (of_decide_eq_false hg69)) | (exact (bneE hg69 (hr64.det3 hr48)).elim) | (exact absurd (hr64.det3 hr48) hp69) | (exact absurd (hr64.det3 hr48) (of_decide_eq_false hg69)) | (exact (tfX hg69).elim) | (exact (decF hg69).elim) | (exfalso; omega)
          · have hg69 := not_false hg70
            refine WL_qg rfl rfl hg70 rfl (ev_move rfl) ?_
            refine WL_qg rfl rfl hg70 rfl (ev_move rfl) ?_
            refine WL_qg rfl rfl hg70 rfl (ev_neq_b Try.underlying4 rfl rfl) ?_
            refine WL_q rfl (ev_pick_f rfl hg70 rfl) ?_
            refine WL_nil ?_
            refine thenE_n ?_
            refine W_cond rfl (fun hg74 => ?_) (fun hg74 => ?_)
            · refine W_seq ?_
              refine W_region ?_
              refine WL_q rfl (ev_assign rfl) ?_
              refine WL_nil ?_
              refine thenE_n ?_
              refine W_ret ?_
              refine thenE_r ?_
              refine ret1 rfl rfl ?_
              first | (exact ⟨rfl, hE⟩) | (exact (bneE hg74 (hr64.det1 hr48)).elim) | (exact absurd (hr64.det1 hr48) hp74) | (exact absurd (hr64.det1 hr48) (of_decide_eq_false hg74)) | (exact (bneE hg74 (hr64.det2 hr48)).elim) | (exact absurd (hr64.det2 hr48) hp74) | (exact absurd (hr64.det2 hr48) (of_decide_eq_false hg74)) | (exact (bneE hg74 (hr64.det3 hr48)).elim) | (exact absurd (hr64.det3 hr48) hp74) | (exact absurd (hr64.det3 hr48) (of_decide_eq_false hg74)) | (exact (tfX hg74).elim) | (exact (decF hg74).elim) | (exfalso; omega)
            · refine W_skip ?_
              refine thenE_n ?_
              refine W_seq ?_
              refine W_seq ?_
              refine W_drawE [(0, true), (1, true), (2, false), (3, false), (4, true)] mixed (by kernel_rfl) rfl (by kernel_rfl) ?_
              intro wd20 hEd20 hzd20
              replace hE := hE.trans hEd20
              replace hA := hA.ext hEd20
              replace hB := hB.ext hEd20
              replace hm := hm.ext hEd20
              replace hl := hl.ext hEd20
              replace hB4 := hB4.ext hEd20
              replace hB5 := hB5.ext hEd20
              replace hF41 := hF41.ext hEd20
              replace hN41 := hN41.ext hEd20
              replace hF43 := hF43.ext hEd20
              replace hN43 := hN43.ext hEd20
              replace hF45 := hF45.ext hEd20
              replace hI45 := hI45.ext hEd20
              replace hF47 := hF47.ext hEd20
              replace hI47 := hI47.ext hEd20
              replace hx48 := hx48.ext hEd20
              replace hF52 := hF52.ext hEd20
              replace hN52 := hN52.ext hEd20
              replace hB12 := hB12.ext hEd20
              replace hF54 := hF54.ext hEd20
              replace hN54 := hN54.ext hEd20
              replace hB13 := hB13.ext hEd20
              replace hF56 := hF56.ext hEd20
              replace hI56 := hI56.ext hEd20
              replace hF58 := hF58.ext hEd20
              replace hI58 := hI58.ext hEd20
              replace hO64 := hO64.ext hEd20
              have hDd20 := Ext.refl wd20
              refine PW_q rfl rfl (fun wq hq => ev_loads st31 sz31 rfl (cellsB (hq.blk hB12)) rfl) ?_
              refine PW_q rfl rfl (fun wq hq => ev_loads st25 sz25 rfl (cellsB (hq.blk hB4)) rfl) ?_
              refine PW_m rfl rfl (ev_call rfl (toNetwork_spec _ A _ hA (by omega) (by omega))) ?_
              rintro _ w78 ⟨h78, rfl, hF78, hE78⟩
              have hz78 := hE78.size
              replace hE := hE.trans hE78
              replace hDd20 := hDd20.trans hE78
              have hN78 := hF78.is
              refine ⟨hDd20, ?_⟩
              have hA_3 := hA.ext hDd20
              have hB_3 := hB.ext hDd20
              have hm_3 := hm.ext hDd20
              have hl_3 := hl.ext hDd20
              have hB4_3 := hB4.ext hDd20
              have hB5_3 := hB5.ext hDd20
              have hF41_3 := hF41.ext hDd20
              have hN41_3 := hN41.ext hDd20
              have hF43_3 := hF43.ext hDd20
              have hN43_3 := hN43.ext hDd20
              have hF45_3 := hF45.ext hDd20
              have hI45_3 := hI45.ext hDd20
              have hF47_3 := hF47.ext hDd20
              have hI47_3 := hI47.ext hDd20
              have hx48_3 := hx48.ext hDd20
              have hF52_3 := hF52.ext hDd20
              have hN52_3 := hN52.ext hDd20
              have hB12_3 := hB12.ext hDd20
              have hF54_3 := hF54.ext hDd20
              have hN54_3 := hN54.ext hDd20
              have hB13_3 := hB13.ext hDd20
              have hF56_3 := hF56.ext hDd20
              have hI56_3 := hI56.ext hDd20
              have hF58_3 := hF58.ext hDd20
              have hI58_3 := hI58.ext hDd20
              have hO64_3 := hO64.ext hDd20
              refine PW_m rfl rfl (ev_call rfl (eqNetwork_spec _ _ A _ hN52_3 hN78 (by omega))) ?_
              rintro _ w79 ⟨rfl, hE79⟩
              have hz79 := hE79.size
              replace hE := hE.trans hE79
              replace hDd20 := hDd20.trans hE79
              replace hF78 := hF78.ext hE79
              replace hN78 := hN78.ext hE79
              refine ⟨hDd20, ?_⟩
              refine PW_q rfl rfl (fun wq hq => ev_not rfl) ?_
              replace hA := hA.ext hDd20
              replace hB := hB.ext hDd20
              replace hm := hm.ext hDd20
              replace hl := hl.ext hDd20
              replace hB4 := hB4.ext hDd20
              replace hB5 := hB5.ext hDd20
              replace hF41 := hF41.ext hDd20
              replace hN41 := hN41.ext hDd20
              replace hF43 := hF43.ext hDd20
              replace hN43 := hN43.ext hDd20
              replace hF45 := hF45.ext hDd20
              replace hI45 := hI45.ext hDd20
              replace hF47 := hF47.ext hDd20
              replace hI47 := hI47.ext hDd20
              replace hx48 := hx48.ext hDd20
              replace hF52 := hF52.ext hDd20
              replace hN52 := hN52.ext hDd20
              replace hB12 := hB12.ext hDd20
              replace hF54 := hF54.ext hDd20
              replace hN54 := hN54.ext hDd20
              replace hB13 := hB13.ext hDd20
              replace hF56 := hF56.ext hDd20
              replace hI56 := hI56.ext hDd20
              replace hF58 := hF58.ext hDd20
              replace hI58 := hI58.ext hDd20
              replace hO64 := hO64.ext hDd20
              refine PW_nil ?_
              refine thenE_n ?_
              refine W_cond rfl (fun hg80 => ?_) (fun hg80 => ?_)
              · have hg79 := not_true hg80
                refine W_seq ?_
                refine W_region ?_
                refine WL_q rfl (ev_assign rfl) ?_
                refine WL_nil ?_
                refine thenE_n ?_
                refine W_ret ?_
                refine thenE_r ?_
                refine ret1 rfl rfl ?_
                first | (exact ⟨rfl, hE⟩) | (exact (bneE hg79 (hr64.det1 hr48)).elim) | (exact absurd (hr64.det1 hr48) hp79) | (exact absurd (hr64.det1 hr48) (of_decide_eq_false hg79)) | (exact (bneE hg79 (hr64.det2 hr48)).elim) | (exact absurd (hr64.det2 hr48) hp79) | (exact absurd (hr64.det2 hr48) (of_decide_eq_false hg79)) | (exact (bneE hg79 (hr64.det3 hr48)).elim) | (exact absurd (hr64.det3 hr48) hp79) | (exact absurd (hr64.det3 hr48) (of_decide_eq_false hg79)) | (exact (tfX hg79).elim) | (exact (decF hg79).elim) | (exfalso; omega)
              · have hg79 := not_false hg80
                refine W_skip ?_
                refine thenE_n ?_
                refine W_seq ?_
                refine W_seq ?_
                refine W_drawE [(0, true), (1, true), (2, false), (3, false), (4, true)] mixed (by kernel_rfl) rfl (by kernel_rfl) ?_
                intro wd22 hEd22 hzd22
                replace hE := hE.trans hEd22
                replace hA := hA.ext hEd22
                replace hB := hB.ext hEd22
                replace hm := hm.ext hEd22
                replace hl := hl.ext hEd22
                replace hB4 := hB4.ext hEd22
                replace hB5 := hB5.ext hEd22
                replace hF41 := hF41.ext hEd22
                replace hN41 := hN41.ext hEd22
                replace hF43 := hF43.ext hEd22
                replace hN43 := hN43.ext hEd22
                replace hF45 := hF45.ext hEd22
                replace hI45 := hI45.ext hEd22
                replace hF47 := hF47.ext hEd22
                replace hI47 := hI47.ext hEd22
                replace hx48 := hx48.ext hEd22
                replace hF52 := hF52.ext hEd22
                replace hN52 := hN52.ext hEd22
                replace hB12 := hB12.ext hEd22
                replace hF54 := hF54.ext hEd22
                replace hN54 := hN54.ext hEd22
                replace hB13 := hB13.ext hEd22
                replace hF56 := hF56.ext hEd22
                replace hI56 := hI56.ext hEd22
                replace hF58 := hF58.ext hEd22
                replace hI58 := hI58.ext hEd22
                replace hO64 := hO64.ext hEd22
                replace hF78 := hF78.ext hEd22
                replace hN78 := hN78.ext hEd22
                have hDd22 := Ext.refl wd22
                refine PW_q rfl rfl (fun wq hq => ev_loads st31 sz31 rfl (cellsB (hq.blk hB13)) rfl) ?_
                refine PW_q rfl rfl (fun wq hq => ev_loads st25 sz25 rfl (cellsB (hq.blk hB5)) rfl) ?_
                refine PW_m rfl rfl (ev_call rfl (toNetwork_spec _ B _ hB (by omega) (by omega))) ?_
                rintro _ w83 ⟨h83, rfl, hF83, hE83⟩
                have hz83 := hE83.size
                replace hE := hE.trans hE83
                replace hDd22 := hDd22.trans hE83
                have hN83 := hF83.is
                refine ⟨hDd22, ?_⟩
                have hA_3 := hA.ext hDd22
                have hB_3 := hB.ext hDd22
                have hm_3 := hm.ext hDd22
                have hl_3 := hl.ext hDd22
                have hB4_3 := hB4.ext hDd22
                have hB5_3 := hB5.ext hDd22
                have hF41_3 := hF41.ext hDd22
                have hN41_3 := hN41.ext hDd22
                have hF43_3 := hF43.ext hDd22
                have hN43_3 := hN43.ext hDd22
                have hF45_3 := hF45.ext hDd22
                have hI45_3 := hI45.ext hDd22
                have hF47_3 := hF47.ext hDd22
                have hI47_3 := hI47.ext hDd22
                have hx48_3 := hx48.ext hDd22
                have hF52_3 := hF52.ext hDd22
                have hN52_3 := hN52.ext hDd22
                have hB12_3 := hB12.ext hDd22
                have hF54_3 := hF54.ext hDd22
                have hN54_3 := hN54.ext hDd22
                have hB13_3 := hB13.ext hDd22
                have hF56_3 := hF56.ext hDd22
                have hI56_3 := hI56.ext hDd22
                have hF58_3 := hF58.ext hDd22
                have hI58_3 := hI58.ext hDd22
                have hO64_3 := hO64.ext hDd22
                have hF78_3 := hF78.ext hDd22
                have hN78_3 := hN78.ext hDd22
                refine PW_m rfl rfl (ev_call rfl (eqNetwork_spec _ _ B _ hN54_3 hN83 (by omega))) ?_
                rintro _ w84 ⟨rfl, hE84⟩
                have hz84 := hE84.size
                replace hE := hE.trans hE84
                replace hDd22 := hDd22.trans hE84
                replace hF83 := hF83.ext hE84
                replace hN83 := hN83.ext hE84
                refine ⟨hDd22, ?_⟩
                refine PW_q rfl rfl (fun wq hq => ev_not rfl) ?_
                replace hA := hA.ext hDd22
                replace hB := hB.ext hDd22
                replace hm := hm.ext hDd22
                replace hl := hl.ext hDd22
                replace hB4 := hB4.ext hDd22
                replace hB5 := hB5.ext hDd22
                replace hF41 := hF41.ext hDd22
                replace hN41 := hN41.ext hDd22
                replace hF43 := hF43.ext hDd22
                replace hN43 := hN43.ext hDd22
                replace hF45 := hF45.ext hDd22
                replace hI45 := hI45.ext hDd22
                replace hF47 := hF47.ext hDd22
                replace hI47 := hI47.ext hDd22
                replace hx48 := hx48.ext hDd22
                replace hF52 := hF52.ext hDd22
                replace hN52 := hN52.ext hDd22
                replace hB12 := hB12.ext hDd22
                replace hF54 := hF54.ext hDd22
                replace hN54 := hN54.ext hDd22
                replace hB13 := hB13.ext hDd22
                replace hF56 := hF56.ext hDd22
                replace hI56 := hI56.ext hDd22
                replace hF58 := hF58.ext hDd22
                replace hI58 := hI58.ext hDd22
                replace hO64 := hO64.ext hDd22
                replace hF78 := hF78.ext hDd22
                replace hN78 := hN78.ext hDd22
                refine PW_nil ?_
                refine thenE_n ?_
                refine W_cond rfl (fun hg85 => ?_) (fun hg85 => ?_)
                · have hg84 := not_true hg85
                  refine W_seq ?_
                  refine W_region ?_
                  refine WL_q rfl (ev_assign rfl) ?_
                  refine WL_nil ?_
                  refine thenE_n ?_
                  refine W_ret ?_
                  refine thenE_r ?_
                  refine ret1 rfl rfl ?_
                  first | (exact ⟨rfl, hE⟩) | (exact (bneE hg84 (hr64.det1 hr48)).elim) | (exact absurd (hr64.det1 hr48) hp84) | (exact absurd (hr64.det1 hr48) (of_decide_eq_false hg84)) | (exact (bneE hg84 (hr64.det2 hr48)).elim) | (exact absurd (hr64.det2 hr48) hp84) | (exact absurd (hr64.det2 hr48) (of_decide_eq_false hg84)) | (exact (bneE hg84 (hr64.det3 hr48)).elim) | (exact absurd (hr64.det3 hr48) hp84) | (exact absurd (hr64.det3 hr48) (of_decide_eq_false hg84)) | (exact (tfX hg84).elim) | (exact (decF hg84).elim) | (exfalso; omega)
                · have hg84 := not_false hg85
                  refine W_skip ?_
                  refine thenE_n ?_
                  refine W_seq ?_
                  refine W_seq ?_
                  refine W_region ?_
                  refine WL_q rfl (ev_move rfl) ?_
                  refine WL_q rfl (ev_move rfl) ?_
                  refine WL_m rfl (ev_call rfl (toIntS_spec _ _ m _ hm (by omega) (by omega))) ?_
                  rintro _ w88 ⟨a88, rfl, hF88, hE88⟩
                  have hz88 := hE88.size
                  replace hE := hE.trans hE88
                  replace hA := hA.ext hE88
                  replace hB := hB.ext hE88
                  replace hm := hm.ext hE88
                  replace hl := hl.ext hE88
                  replace hB4 := hB4.ext hE88
                  replace hB5 := hB5.ext hE88
                  replace hF41 := hF41.ext hE88
                  replace hN41 := hN41.ext hE88
                  replace hF43 := hF43.ext hE88
                  replace hN43 := hN43.ext hE88
                  replace hF45 := hF45.ext hE88
                  replace hI45 := hI45.ext hE88
                  replace hF47 := hF47.ext hE88
                  replace hI47 := hI47.ext hE88
                  replace hx48 := hx48.ext hE88
                  replace hF52 := hF52.ext hE88
                  replace hN52 := hN52.ext hE88
                  replace hB12 := hB12.ext hE88
                  replace hF54 := hF54.ext hE88
                  replace hN54 := hN54.ext hE88
                  replace hB13 := hB13.ext hE88
                  replace hF56 := hF56.ext hE88
                  replace hI56 := hI56.ext hE88
                  replace hF58 := hF58.ext hE88
                  replace hI58 := hI58.ext hE88
                  replace hO64 := hO64.ext hE88
                  replace hF78 := hF78.ext hE88
                  replace hN78 := hN78.ext hE88
                  replace hF83 := hF83.ext hE88
                  replace hN83 := hN83.ext hE88
                  have hI88 := hF88.is
                  refine WL_m rfl (ev_call rfl (eqIntS_spec _ _ _ _ m m _ hI56 hI88 (by omega))) ?_
                  rintro _ w89 ⟨rfl, hE89⟩
                  have hz89 := hE89.size
                  replace hE := hE.trans hE89
                  replace hA := hA.ext hE89
                  replace hB := hB.ext hE89
                  replace hm := hm.ext hE89
                  replace hl := hl.ext hE89
                  replace hB4 := hB4.ext hE89
                  replace hB5 := hB5.ext hE89
                  replace hF41 := hF41.ext hE89
                  replace hN41 := hN41.ext hE89
                  replace hF43 := hF43.ext hE89
                  replace hN43 := hN43.ext hE89
                  replace hF45 := hF45.ext hE89
                  replace hI45 := hI45.ext hE89
                  replace hF47 := hF47.ext hE89
                  replace hI47 := hI47.ext hE89
                  replace hx48 := hx48.ext hE89
                  replace hF52 := hF52.ext hE89
                  replace hN52 := hN52.ext hE89
                  replace hB12 := hB12.ext hE89
                  replace hF54 := hF54.ext hE89
                  replace hN54 := hN54.ext hE89
                  replace hB13 := hB13.ext hE89
                  replace hF56 := hF56.ext hE89
                  replace hI56 := hI56.ext hE89
                  replace hF58 := hF58.ext hE89
                  replace hI58 := hI58.ext hE89
                  replace hO64 := hO64.ext hE89
                  replace hF78 := hF78.ext hE89
                  replace hN78 := hN78.ext hE89
                  replace hF83 := hF83.ext hE89
                  replace hN83 := hN83.ext hE89
                  replace hF88 := hF88.ext hE89
                  replace hI88 := hI88.ext hE89
                  refine WL_q rfl (ev_not rfl) ?_
                  refine WL_nil ?_
                  refine thenE_n ?_
                  refine W_cond rfl (fun hg90 => ?_) (fun hg90 => ?_)
                  · have hg89 := not_true hg90
                    refine W_seq ?_
                    refine W_region ?_
                    refine WL_q rfl (ev_assign rfl) ?_
                    refine WL_nil ?_
                    refine thenE_n ?_
                    refine W_ret ?_
                    refine thenE_r ?_
                    refine ret1 rfl rfl ?_
                    first | (exact ⟨rfl, hE⟩) | (exact (bneE hg89 (hr64.det1 hr48)).elim) | (exact absurd (hr64.det1 hr48) hp89) | (exact absurd (hr64.det1 hr48) (of_decide_eq_false hg89)) | (exact (bneE hg89 (hr64.det2 hr48)).elim) | (exact absurd (hr64.det2 hr48) hp89) | (exact absurd (hr64.det2 hr48) (of_decide_eq_false hg89)) | (exact (bneE hg89 (hr64.det3 hr48)).elim) | (exact absurd (hr64.det3 hr48) hp89) | (exact absurd (hr64.det3 hr48) (of_decide_eq_false hg89)) | (exact (tfX hg89).elim) | (exact (decF hg89).elim) | (exfalso; omega)
                  · have hg89 := not_false hg90
                    refine W_skip ?_
                    refine thenE_n ?_
                    refine W_seq ?_
                    refine W_seq ?_
                    refine W_region ?_
                    refine WL_q rfl (ev_move rfl) ?_
                    refine WL_q rfl (ev_move rfl) ?_
                    refine WL_m rfl (ev_call rfl (toIntS_spec _ _ l _ hl (by omega) (by omega))) ?_
                    rintro _ w93 ⟨a93, rfl, hF93, hE93⟩
                    have hz93 := hE93.size
                    replace hE := hE.trans hE93
                    replace hA := hA.ext hE93
                    replace hB := hB.ext hE93
                    replace hm := hm.ext hE93
                    replace hl := hl.ext hE93
                    replace hB4 := hB4.ext hE93
                    replace hB5 := hB5.ext hE93
                    replace hF41 := hF41.ext hE93
                    replace hN41 := hN41.ext hE93
                    replace hF43 := hF43.ext hE93
                    replace hN43 := hN43.ext hE93
                    replace hF45 := hF45.ext hE93
                    replace hI45 := hI45.ext hE93
                    replace hF47 := hF47.ext hE93
                    replace hI47 := hI47.ext hE93
                    replace hx48 := hx48.ext hE93
                    replace hF52 := hF52.ext hE93
                    replace hN52 := hN52.ext hE93
                    replace hB12 := hB12.ext hE93
                    replace hF54 := hF54.ext hE93
                    replace hN54 := hN54.ext hE93
                    replace hB13 := hB13.ext hE93
                    replace hF56 := hF56.ext hE93
                    replace hI56 := hI56.ext hE93
                    replace hF58 := hF58.ext hE93
                    replace hI58 := hI58.ext hE93
                    replace hO64 := hO64.ext hE93
                    replace hF78 := hF78.ext hE93
                    replace hN78 := hN78.ext hE93
                    replace hF83 := hF83.ext hE93
                    replace hN83 := hN83.ext hE93
                    replace hF88 := hF88.ext hE93
                    replace hI88 := hI88.ext hE93
                    have hI93 := hF93.is
                    refine WL_m rfl (ev_call rfl (eqIntS_spec _ _ _ _ l l _ hI58 hI93 (by omega))) ?_
                    rintro _ w94 ⟨rfl, hE94⟩
                    have hz94 := hE94.size
                    replace hE := hE.trans hE94
                    replace hA := hA.ext hE94
                    replace hB := hB.ext hE94
                    replace hm := hm.ext hE94
                    replace hl := hl.ext hE94
                    replace hB4 := hB4.ext hE94
                    replace hB5 := hB5.ext hE94
                    replace hF41 := hF41.ext hE94
                    replace hN41 := hN41.ext hE94
                    replace hF43 := hF43.ext hE94
                    replace hN43 := hN43.ext hE94
                    replace hF45 := hF45.ext hE94
                    replace hI45 := hI45.ext hE94
                    replace hF47 := hF47.ext hE94
                    replace hI47 := hI47.ext hE94
                    replace hx48 := hx48.ext hE94
                    replace hF52 := hF52.ext hE94
                    replace hN52 := hN52.ext hE94
                    replace hB12 := hB12.ext hE94
                    replace hF54 := hF54.ext hE94
                    replace hN54 := hN54.ext hE94
                    replace hB13 := hB13.ext hE94
                    replace hF56 := hF56.ext hE94
                    replace hI56 := hI56.ext hE94
                    replace hF58 := hF58.ext hE94
                    replace hI58 := hI58.ext hE94
                    replace hO64 := hO64.ext hE94
                    replace hF78 := hF78.ext hE94
                    replace hN78 := hN78.ext hE94
                    replace hF83 := hF83.ext hE94
                    replace hN83 := hN83.ext hE94
                    replace hF88 := hF88.ext hE94
                    replace hI88 := hI88.ext hE94
                    replace hF93 := hF93.ext hE94
                    replace hI93 := hI93.ext hE94
                    refine WL_q rfl (ev_not rfl) ?_
                    refine WL_nil ?_
                    refine thenE_n ?_
                    refine W_cond rfl (fun hg95 => ?_) (fun hg95 => ?_)
                    · have hg94 := not_true hg95
                      refine W_seq ?_
                      refine W_region ?_
                      refine WL_q rfl (ev_assign rfl) ?_
                      refine WL_nil ?_
                      refine thenE_n ?_
                      refine W_ret ?_
                      refine thenE_r ?_
                      refine ret1 rfl rfl ?_
                      first | (exact ⟨rfl, hE⟩) | (exact (bneE hg94 (hr64.det1 hr48)).elim) | (exact absurd (hr64.det1 hr48) hp94) | (exact absurd (hr64.det1 hr48) (of_decide_eq_false hg94)) | (exact (bneE hg94 (hr64.det2 hr48)).elim) | (exact absurd (hr64.det2 hr48) hp94) | (exact absurd (hr64.det2 hr48) (of_decide_eq_false hg94)) | (exact (bneE hg94 (hr64.det3 hr48)).elim) | (exact absurd (hr64.det3 hr48) hp94) | (exact absurd (hr64.det3 hr48) (of_decide_eq_false hg94)) | (exact (tfX hg94).elim) | (exact (decF hg94).elim) | (exfalso; omega)
                    · have hg94 := not_false hg95
                      refine W_skip ?_
                      refine thenE_n ?_
                      refine W_seq ?_
                      refine W_region ?_
                      refine WL_q rfl (ev_assign rfl) ?_
                      refine WL_nil ?_
                      refine thenE_n ?_
                      refine W_seq ?_
                      refine W_region ?_
                      refine WL_q rfl (ev_loads st31 sz31 rfl (cellsB hB12) rfl) ?_
                      refine WL_q rfl (ev_move rfl) ?_
                      refine WL_m rfl (ev_call rfl (markNetwork_spec _ A _ _ hF52 (by omega) (by omega) (by omega))) ?_
                      rintro _ w98 ⟨r98, rfl, hr98, hK98⟩
                      have hz98 := hK98.size
                      replace hE := hE.mrk hK98 (by omega)
                      replace hA := hA.mrk hK98 (by omega)
                      replace hB := hB.mrk hK98 (by omega)
                      replace hm := hm.mrk hK98 (by omega)
                      replace hl := hl.mrk hK98 (by omega)
                      replace hB4 := hB4.mrk hK98 (by omega)
                      replace hB5 := hB5.mrk hK98 (by omega)
                      replace hF41 := hF41.mrk hK98 (by omega)
                      replace hN41 := hN41.mrk hK98 (by omega)
                      replace hF43 := hF43.mrk hK98 (by omega)
                      replace hN43 := hN43.mrk hK98 (by omega)
                      replace hF45 := hF45.mrk hK98 (by omega)
                      replace hI45 := hI45.mrk hK98 (by omega)
                      replace hF47 := hF47.mrk hK98 (by omega)
                      replace hI47 := hI47.mrk hK98 (by omega)
                      replace hx48 := hx48.mrk hK98 (by omega)
                      replace hB12 := hB12.mrk hK98 (by omega)
                      replace hF54 := hF54.mrk hK98 (by omega)
                      replace hN54 := hN54.mrk hK98 (by omega)
                      replace hB13 := hB13.mrk hK98 (by omega)
                      replace hF56 := hF56.mrk hK98 (by omega)
                      replace hI56 := hI56.mrk hK98 (by omega)
                      replace hF58 := hF58.mrk hK98 (by omega)
                      replace hI58 := hI58.mrk hK98 (by omega)
                      replace hO64 := hO64.mrk hK98 (by omega)
                      replace hF78 := hF78.mrk hK98 (by omega)
                      replace hN78 := hN78.mrk hK98 (by omega)
                      replace hF83 := hF83.mrk hK98 (by omega)
                      replace hN83 := hN83.mrk hK98 (by omega)
                      replace hF88 := hF88.mrk hK98 (by omega)
                      replace hI88 := hI88.mrk hK98 (by omega)
                      replace hF93 := hF93.mrk hK98 (by omega)
                      replace hI93 := hI93.mrk hK98 (by omega)
                      refine WL_q rfl (ev_assign rfl) ?_
                      refine WL_nil ?_
                      refine thenE_n ?_
                      refine W_seq ?_
                      refine W_region ?_
                      refine WL_q rfl (ev_loads st31 sz31 rfl (cellsB hB13) rfl) ?_
                      refine WL_q rfl (ev_move rfl) ?_
                      refine WL_m rfl (ev_call rfl (markNetwork_spec _ B _ _ hF54 (by omega) (by omega) (by omega))) ?_
                      rintro _ w101 ⟨r101, rfl, hr101, hK101⟩
                      have hz101 := hK101.size
                      replace hE := hE.mrk hK101 (by omega)
                      replace hA := hA.mrk hK101 (by omega)
                      replace hB := hB.mrk hK101 (by omega)
                      replace hm := hm.mrk hK101 (by omega)
                      replace hl := hl.mrk hK101 (by omega)
                      replace hB4 := hB4.mrk hK101 (by omega)
                      replace hB5 := hB5.mrk hK101 (by omega)
                      replace hF41 := hF41.mrk hK101 (by omega)
                      replace hN41 := hN41.mrk hK101 (by omega)
                      replace hF43 := hF43.mrk hK101 (by omega)
                      replace hN43 := hN43.mrk hK101 (by omega)
                      replace hF45 := hF45.mrk hK101 (by omega)
                      replace hI45 := hI45.mrk hK101 (by omega)
                      replace hF47 := hF47.mrk hK101 (by omega)
                      replace hI47 := hI47.mrk hK101 (by omega)
                      replace hx48 := hx48.mrk hK101 (by omega)
                      replace hB12 := hB12.mrk hK101 (by omega)
                      replace hB13 := hB13.mrk hK101 (by omega)
                      replace hF56 := hF56.mrk hK101 (by omega)
                      replace hI56 := hI56.mrk hK101 (by omega)
                      replace hF58 := hF58.mrk hK101 (by omega)
                      replace hI58 := hI58.mrk hK101 (by omega)
                      replace hO64 := hO64.mrk hK101 (by omega)
                      replace hF78 := hF78.mrk hK101 (by omega)
                      replace hN78 := hN78.mrk hK101 (by omega)
                      replace hF83 := hF83.mrk hK101 (by omega)
                      replace hN83 := hN83.mrk hK101 (by omega)
                      replace hF88 := hF88.mrk hK101 (by omega)
                      replace hI88 := hI88.mrk hK101 (by omega)
                      replace hF93 := hF93.mrk hK101 (by omega)
                      replace hI93 := hI93.mrk hK101 (by omega)
                      refine WL_q rfl (ev_assign rfl) ?_
                      refine WL_nil ?_
                      refine thenE_n ?_
                      refine W_seq ?_
                      refine W_region ?_
                      refine WL_q rfl (ev_move rfl) ?_
                      refine WL_q rfl (ev_move rfl) ?_
                      refine WL_m rfl (ev_call rfl (markIntS_arg hF56 (by omega) (by omega))) ?_
                      rintro _ w104 ⟨rfl, hK104⟩
                      have hz104 := hK104.size
                      replace hE := hE.mrk hK104 (by omega)
                      replace hA := hA.mrk hK104 (by omega)
                      replace hB := hB.mrk hK104 (by omega)
                      replace hm := hm.mrk hK104 (by omega)
                      replace hl := hl.mrk hK104 (by omega)
                      replace hB4 := hB4.mrk hK104 (by omega)
                      replace hB5 := hB5.mrk hK104 (by omega)
                      replace hF41 := hF41.mrk hK104 (by omega)
                      replace hN41 := hN41.mrk hK104 (by omega)
                      replace hF43 := hF43.mrk hK104 (by omega)
                      replace hN43 := hN43.mrk hK104 (by omega)
                      replace hF45 := hF45.mrk hK104 (by omega)
                      replace hI45 := hI45.mrk hK104 (by omega)
                      replace hF47 := hF47.mrk hK104 (by omega)
                      replace hI47 := hI47.mrk hK104 (by omega)
                      replace hx48 := hx48.mrk hK104 (by omega)
                      replace hB12 := hB12.mrk hK104 (by omega)
                      replace hB13 := hB13.mrk hK104 (by omega)
                      replace hF58 := hF58.mrk hK104 (by omega)
                      replace hI58 := hI58.mrk hK104 (by omega)
                      replace hO64 := hO64.mrk hK104 (by omega)
                      replace hF78 := hF78.mrk hK104 (by omega)
                      replace hN78 := hN78.mrk hK104 (by omega)
                      replace hF83 := hF83.mrk hK104 (by omega)
                      replace hN83 := hN83.mrk hK104 (by omega)
                      replace hF88 := hF88.mrk hK104 (by omega)
                      replace hI88 := hI88.mrk hK104 (by omega)
                      replace hF93 := hF93.mrk hK104 (by omega)
                      replace hI93 := hI93.mrk hK104 (by omega)
                      refine WL_q rfl (ev_assign rfl) ?_
                      refine WL_nil ?_
                      refine thenE_n ?_
                      refine W_seq ?_
                      refine W_region ?_
                      refine WL_q rfl (ev_move rfl) ?_
                      refine WL_q rfl (ev_move rfl) ?_
                      refine WL_m rfl (ev_call rfl (markIntS_arg hF58 (by omega) (by omega))) ?_
                      rintro _ w107 ⟨rfl, hK107⟩
                      have hz107 := hK107.size
                      replace hE := hE.mrk hK107 (by omega)
                      replace hA := hA.mrk hK107 (by omega)
                      replace hB := hB.mrk hK107 (by omega)
                      replace hm := hm.mrk hK107 (by omega)
                      replace hl := hl.mrk hK107 (by omega)
                      replace hB4 := hB4.mrk hK107 (by omega)
                      replace hB5 := hB5.mrk hK107 (by omega)
                      replace hF41 := hF41.mrk hK107 (by omega)
                      replace hN41 := hN41.mrk hK107 (by omega)
                      replace hF43 := hF43.mrk hK107 (by omega)
                      replace hN43 := hN43.mrk hK107 (by omega)
                      replace hF45 := hF45.mrk hK107 (by omega)
                      replace hI45 := hI45.mrk hK107 (by omega)
                      replace hF47 := hF47.mrk hK107 (by omega)
                      replace hI47 := hI47.mrk hK107 (by omega)
                      replace hx48 := hx48.mrk hK107 (by omega)
                      replace hB12 := hB12.mrk hK107 (by omega)
                      replace hB13 := hB13.mrk hK107 (by omega)
                      replace hO64 := hO64.mrk hK107 (by omega)
                      replace hF78 := hF78.mrk hK107 (by omega)
                      replace hN78 := hN78.mrk hK107 (by omega)
                      replace hF83 := hF83.mrk hK107 (by omega)
                      replace hN83 := hN83.mrk hK107 (by omega)
                      replace hF88 := hF88.mrk hK107 (by omega)
                      replace hI88 := hI88.mrk hK107 (by omega)
                      replace hF93 := hF93.mrk hK107 (by omega)
                      replace hI93 := hI93.mrk hK107 (by omega)
                      refine WL_q rfl (ev_assign rfl) ?_
                      refine WL_nil ?_
                      refine thenE_n ?_
                      refine W_seq ?_
                      refine W_seq ?_
                      refine W_region ?_
                      refine WL_q rfl (ev_move rfl) ?_
                      refine WL_q rfl (ev_lss rfl rfl) ?_
                      refine WL_q rfl (ev_move rfl) ?_
                      refine WL_splitv (t := 110) rfl (fun hg109 => ?_) (fun hg109 => ?_)
                      · have hp109 := of_decide_eq_true hg109
                        refine WL_no rfl rfl hg109 rfl ?_
                        refine WL_no rfl rfl hg109 rfl ?_
                        refine WL_no rfl rfl hg109 rfl ?_
                        refine WL_no rfl rfl hg109 rfl ?_
                        refine WL_q rfl (ev_pick_t rfl hg109 rfl) ?_
                        refine WL_q rfl (ev_move rfl) ?_
                        refine WL_no rfl rfl rfl rfl ?_
                        refine WL_no rfl rfl rfl rfl ?_
                        refine WL_no rfl rfl rfl rfl ?_
                        refine WL_q rfl (ev_pick_t rfl rfl rfl) ?_
                        refine WL_nil ?_
                        refine thenE_n ?_
                        refine W_cond_t rfl ?_
                        refine W_seq ?_
                        refine W_region ?_
                        refine WL_q rfl (ev_assign rfl) ?_
                        refine WL_nil ?_
                        refine thenE_n ?_
                        refine W_ret ?_
                        refine thenE_r ?_
                        refine ret1 rfl rfl ?_
                        first | (exact ⟨rfl, hE⟩) | (exact (bneE hg109 (hr64.det1 hr48)).elim) | (exact absurd (hr64.det1 hr48) hp109) | (exact absurd (hr64.det1 hr48) (of_decide_eq_false hg109)) | (exact (bneE hg109 (hr64.det2 hr48)).elim) | (exact absurd (hr64.det2 hr48) hp109) | (exact absurd (hr64.det2 hr48) (of_decide_eq_false hg109)) | (exact (bneE hg109 (hr64.det3 hr48)).elim) | (exact absurd (hr64.det3 hr48) hp109) | (exact absurd (hr64.det3 hr48) (of_decide_eq_false hg109)) | (exact (tfX hg109).elim) | (exact (decF hg109).elim) | (exfalso; omega)
                      · have hp109 := of_decide_eq_false hg109
                        refine WL_qg rfl rfl hg109 rfl (ev_move rfl) ?_
                        refine WL_qg rfl rfl hg109 rfl (ev_move rfl) ?_
                        refine WL_mg rfl rfl hg109 rfl (ev_call rfl (eqIntS_spec _ _ _ _ y64 y48 _ (ownt_i hO64) hx48 (by omega))) ?_
                        rintro _ w113 ⟨rfl, hE113⟩
                        have hz113 := hE113.size
                        replace hE := hE.trans hE113
                        replace hA := hA.ext hE113
                        replace hB := hB.ext hE113
                        replace hm := hm.ext hE113
                        replace hl := hl.ext hE113
                        replace hB4 := hB4.ext hE113
                        replace hB5 := hB5.ext hE113
                        replace hF41 := hF41.ext hE113
                        replace hN41 := hN41.ext hE113
                        replace hF43 := hF43.ext hE113
                        replace hN43 := hN43.ext hE113
                        replace hF45 := hF45.ext hE113
                        replace hI45 := hI45.ext hE113
                        replace hF47 := hF47.ext hE113
                        replace hI47 := hI47.ext hE113
                        replace hx48 := hx48.ext hE113
                        replace hB12 := hB12.ext hE113
                        replace hB13 := hB13.ext hE113
                        replace hO64 := hO64.ext hE113
                        replace hF78 := hF78.ext hE113
                        replace hN78 := hN78.ext hE113
                        replace hF83 := hF83.ext hE113
                        replace hN83 := hN83.ext hE113
                        replace hF88 := hF88.ext hE113
                        replace hI88 := hI88.ext hE113
                        replace hF93 := hF93.ext hE113
                        replace hI93 := hI93.ext hE113
                        refine WL_qg rfl rfl hg109 rfl (ev_not rfl) ?_
                        refine WL_q rfl (ev_pick_f rfl hg109 rfl) ?_
                        refine WL_q rfl (ev_move rfl) ?_
                        refine WL_splitv (t := 116) rfl (fun hg114 => ?_) (fun hg114 => ?_)
                        · have hg113 := not_true hg114
                          refine WL_no rfl rfl hg114 rfl ?_
                          refine WL_no rfl rfl hg114 rfl ?_
                          refine WL_no rfl rfl hg114 rfl ?_
                          refine WL_q rfl (ev_pick_t rfl hg114 rfl) ?_
                          refine WL_nil ?_
                          refine thenE_n ?_
                          refine W_cond_t rfl ?_
                          refine W_seq ?_
                          refine W_region ?_
                          refine WL_q rfl (ev_assign rfl) ?_
                          refine WL_nil ?_
                          refine thenE_n ?_
                          refine W_ret ?_
                          refine thenE_r ?_
                          refine ret1 rfl rfl ?_
                          first | (exact ⟨rfl, hE⟩) | (exact (bneE hg113 (hr64.det1 hr48)).elim) | (exact absurd (hr64.det1 hr48) hp113) | (exact absurd (hr64.det1 hr48) (of_decide_eq_false hg113)) | (exact (bneE hg113 (hr64.det2 hr48)).elim) | (exact absurd (hr64.det2 hr48) hp113) | (exact absurd (hr64.det2 hr48) (of_decide_eq_false hg113)) | (exact (bneE hg113 (hr64.det3 hr48)).elim) | (exact absurd (hr64.det3 hr48) hp113) | (exact absurd (hr64.det3 hr48) (of_decide_eq_false hg113)) | (exact (tfX hg113).elim) | (exact (decF hg113).elim) | (exfalso; omega)
                        · have hg113 := not_false hg114
                          refine WL_qg rfl rfl hg114 rfl (ev_move rfl) ?_
                          refine WL_qg rfl rfl hg114 rfl (ev_move rfl) ?_
                          refine WL_qg rfl rfl hg114 rfl (ev_neq_b Try.underlying4 rfl rfl) ?_
                          refine WL_q rfl (ev_pick_f rfl hg114 rfl) ?_
                          refine WL_nil ?_
                          refine thenE_n ?_
                          refine W_cond rfl (fun hg119 => ?_) (fun hg119 => ?_)
                          · refine W_seq ?_
                            refine W_region ?_
                            refine WL_q rfl (ev_assign rfl) ?_
                            refine WL_nil ?_
                            refine thenE_n ?_
                            refine W_ret ?_
                            refine thenE_r ?_
                            refine ret1 rfl rfl ?_
                            first | (exact ⟨rfl, hE⟩) | (exact (bneE hg119 (hr64.det1 hr48)).elim) | (exact absurd (hr64.det1 hr48) hp119) | (exact absurd (hr64.det1 hr48) (of_decide_eq_false hg119)) | (exact (bneE hg119 (hr64.det2 hr48)).elim) | (exact absurd (hr64.det2 hr48) hp119) | (exact absurd (hr64.det2 hr48) (of_decide_eq_false hg119)) | (exact (bneE hg119 (hr64.det3 hr48)).elim) | (exact absurd (hr64.det3 hr48) hp119) | (exact absurd (hr64.det3 hr48) (of_decide_eq_false hg119)) | (exact (tfX hg119).elim) | (exact (decF hg119).elim) | (exfalso; omega)
                          · refine W_skip ?_
                            refine thenE_n ?_
                            refine W_seq ?_
                            refine W_region ?_
                            refine WL_q rfl (ev_assign rfl) ?_
                            refine WL_nil ?_
                            refine thenE_n ?_
                            refine W_seq ?_
                            refine W_region ?_
                            refine WL_q rfl (ev_move rfl) ?_
                            refine WL_q rfl (ev_move rfl) ?_
                            refine WL_m rfl (ev_call rfl (markIntS_ownH hO64 (by omega) (by omega))) ?_
                            rintro _ w123 ⟨rfl, hO123, hK123⟩
                            have hz123 := hK123.size
                            have hR123 := hK123
                            replace hE := hE.rg hR123 (by omega)
                            replace hA := hA.rg hR123 (by omega)
                            replace hB := hB.rg hR123 (by omega)
                            replace hm := hm.rg hR123 (by omega)
                            replace hl := hl.rg hR123 (by omega)
                            replace hB4 := hB4.rg hR123 (by omega)
                            replace hB5 := hB5.rg hR123 (by omega)
                            replace hF41 := hF41.rg hR123 (by omega)
                            replace hN41 := hN41.rg hR123 (by omega)
                            replace hF43 := hF43.rg hR123 (by omega)
                            replace hN43 := hN43.rg hR123 (by omega)
                            replace hF45 := hF45.rg hR123 (by omega)
                            replace hI45 := hI45.rg hR123 (by omega)
                            replace hF47 := hF47.rg hR123 (by omega)
                            replace hI47 := hI47.rg hR123 (by omega)
                            replace hx48 := hx48.rg hR123 (by omega)
                            replace hB12 := hB12.rg hR123 (by omega)
                            replace hB13 := hB13.rg hR123 (by omega)
                            replace hF78 := hF78.rg hR123 (by omega)
                            replace hN78 := hN78.rg hR123 (by omega)
                            replace hF83 := hF83.rg hR123 (by omega)
                            replace hN83 := hN83.rg hR123 (by omega)
                            replace hF88 := hF88.rg hR123 (by omega)
                            replace hI88 := hI88.rg hR123 (by omega)
                            replace hF93 := hF93.rg hR123 (by omega)
                            replace hI93 := hI93.rg hR123 (by omega)
                            replace hO64 := hO123
                            refine WL_q rfl (ev_assign rfl) ?_
                            refine WL_nil ?_
                            refine thenE_n ?_
                            refine W_seq ?_
                            refine W_region ?_
                            refine WL_q rfl (ev_assign rfl) ?_
                            refine WL_nil ?_
                            refine thenE_n ?_
                            refine W_seq ?_
                            refine W_region ?_
                            refine WL_q rfl (ev_move rfl) ?_
                            refine WL_q rfl (ev_move rfl) ?_
                            refine WL_m rfl (ev_call rfl (heldIntS_spec _ _ (nums 1 y64.length) _ _ (Ints.of_own (nums_len _ _) hO64.1) rfl (by omega) (by omega))) ?_
                            rintro _ w126 ⟨rfl, hE126⟩
                            have hz126 := hE126.size
                            replace hE := hE.trans hE126
                            replace hA := hA.ext hE126
                            replace hB := hB.ext hE126
                            replace hm := hm.ext hE126
                            replace hl := hl.ext hE126
                            replace hB4 := hB4.ext hE126
                            replace hB5 := hB5.ext hE126
                            replace hF41 := hF41.ext hE126
                            replace hN41 := hN41.ext hE126
                            replace hF43 := hF43.ext hE126
                            replace hN43 := hN43.ext hE126
                            replace hF45 := hF45.ext hE126
                            replace hI45 := hI45.ext hE126
                            replace hF47 := hF47.ext hE126
                            replace hI47 := hI47.ext hE126
                            replace hx48 := hx48.ext hE126
                            replace hB12 := hB12.ext hE126
                            replace hB13 := hB13.ext hE126
                            replace hO64 := hO64.ext hE126
                            replace hF78 := hF78.ext hE126
                            replace hN78 := hN78.ext hE126
                            replace hF83 := hF83.ext hE126
                            replace hN83 := hN83.ext hE126
                            replace hF88 := hF88.ext hE126
                            replace hI88 := hI88.ext hE126
                            replace hF93 := hF93.ext hE126
                            replace hI93 := hI93.ext hE126
                            refine WL_q rfl (ev_assign rfl) ?_
                            refine WL_nil ?_
                            refine thenE_n ?_
                            refine W_seq ?_
                            refine W_seq ?_
                            refine W_region ?_
                            refine WL_q rfl (ev_move rfl) ?_
                            refine WL_q rfl (ev_lss rfl rfl) ?_
                            refine WL_nil ?_
                            refine thenE_n ?_
                            refine W_cond rfl (fun hg128 => ?_) (fun hg128 => ?_)
                            · have hp128 := of_decide_eq_true hg128
                              refine W_seq ?_
                              refine W_region ?_
                              refine WL_q rfl (ev_assign rfl) ?_
                              refine WL_nil ?_
                              refine thenE_n ?_
                              refine W_ret ?_
                              refine thenE_r ?_
                              refine ret1 rfl rfl ?_
                              first | (exact ⟨rfl, hE⟩) | (exact (bneE hg128 (hr64.det1 hr48)).elim) | (exact absurd (hr64.det1 hr48) hp128) | (exact absurd (hr64.det1 hr48) (of_decide_eq_false hg128)) | (exact (bneE hg128 (hr64.det2 hr48)).elim) | (exact absurd (hr64.det2 hr48) hp128) | (exact absurd (hr64.det2 hr48) (of_decide_eq_false hg128)) | (exact (bneE hg128 (hr64.det3 hr48)).elim) | (exact absurd (hr64.det3 hr48) hp128) | (exact absurd (hr64.det3 hr48) (of_decide_eq_false hg128)) | (exact (tfX hg128).elim) | (exact (decF hg128).elim) | (exfalso; omega)
                            · have hp128 := of_decide_eq_false hg128
                              refine W_skip ?_
                              refine thenE_n ?_
                              refine W_seq ?_
                              refine W_seq ?_
                              refine W_region ?_
                              refine WL_q rfl (ev_move rfl) ?_
                              refine WL_q rfl (ev_move rfl) ?_
                              refine WL_q rfl (ev_neq rfl rfl) ?_
                              refine WL_nil ?_
                              refine thenE_n ?_
                              refine W_cond rfl (fun hg131 => ?_) (fun hg131 => ?_)
                              · have hp131 := of_decide_eq_true hg131
                                refine W_seq ?_
                                refine W_region ?_
                                refine WL_q rfl (ev_assign rfl) ?_
                                refine WL_nil ?_
                                refine thenE_n ?_
                                refine W_ret ?_
                                refine thenE_r ?_
                                refine ret1 rfl rfl ?_
                                first | (exact ⟨rfl, hE⟩) | (exact (bneE hg131 (hr64.det1 hr48)).elim) | (exact absurd (hr64.det1 hr48) hp131) | (exact absurd (hr64.det1 hr48) (of_decide_eq_false hg131)) | (exact (bneE hg131 (hr64.det2 hr48)).elim) | (exact absurd (hr64.det2 hr48) hp131) | (exact absurd (hr64.det2 hr48) (of_decide_eq_false hg131)) | (exact (bneE hg131 (hr64.det3 hr48)).elim) | (exact absurd (hr64.det3 hr48) hp131) | (exact absurd (hr64.det3 hr48) (of_decide_eq_false hg131)) | (exact (tfX hg131).elim) | (exact (decF hg131).elim) | (exfalso; omega)
                              · have hp131 := of_decide_eq_false hg131
                                refine W_skip ?_
                                refine thenE_n ?_
                                refine W_seq ?_
                                refine W_drawE [(0, true), (2, true), (4, true), (6, true), (1, false), (3, false), (5, false), (7, false), (8, false), (9, true), (10, true), (11, true), (12, true), (13, true)] mixed (by kernel_rfl) rfl (by kernel_rfl) ?_
                                intro wd43 hEd43 hzd43
                                replace hE := hE.trans hEd43
                                replace hA := hA.ext hEd43
                                replace hB := hB.ext hEd43
                                replace hm := hm.ext hEd43
                                replace hl := hl.ext hEd43
                                replace hB4 := hB4.ext hEd43
                                replace hB5 := hB5.ext hEd43
                                replace hF41 := hF41.ext hEd43
                                replace hN41 := hN41.ext hEd43
                                replace hF43 := hF43.ext hEd43
                                replace hN43 := hN43.ext hEd43
                                replace hF45 := hF45.ext hEd43
                                replace hI45 := hI45.ext hEd43
                                replace hF47 := hF47.ext hEd43
                                replace hI47 := hI47.ext hEd43
                                replace hx48 := hx48.ext hEd43
                                replace hB12 := hB12.ext hEd43
                                replace hB13 := hB13.ext hEd43
                                replace hO64 := hO64.ext hEd43
                                replace hF78 := hF78.ext hEd43
                                replace hN78 := hN78.ext hEd43
                                replace hF83 := hF83.ext hEd43
                                replace hN83 := hN83.ext hEd43
                                replace hF88 := hF88.ext hEd43
                                replace hI88 := hI88.ext hEd43
                                replace hF93 := hF93.ext hEd43
                                replace hI93 := hI93.ext hEd43
                                have hDd43 := Ext.refl wd43
                                refine PW_q rfl rfl (fun wq hq => ev_loads st25 sz25 rfl (cellsB (hq.blk hB4)) rfl) ?_
                                refine PW_q rfl rfl (fun wq hq => ev_loads st25 sz25 rfl (cellsB (hq.blk hB5)) rfl) ?_
                                refine PW_q rfl rfl (fun wq hq => ev_move rfl) ?_
                                refine PW_q rfl rfl (fun wq hq => ev_move rfl) ?_
                                refine PW_m rfl rfl (ev_call rfl (toNetwork_spec _ A _ hA (by omega) (by omega))) ?_
                                rintro _ w134 ⟨h134, rfl, hF134, hE134⟩
                                have hz134 := hE134.size
                                replace hE := hE.trans hE134
                                replace hDd43 := hDd43.trans hE134
                                have hN134 := hF134.is
                                refine ⟨hDd43, ?_⟩
                                have hA_3 := hA.ext hDd43
                                have hB_3 := hB.ext hDd43
                                have hm_3 := hm.ext hDd43
                                have hl_3 := hl.ext hDd43
                                have hB4_3 := hB4.ext hDd43
                                have hB5_3 := hB5.ext hDd43
                                have hF41_3 := hF41.ext hDd43
                                have hN41_3 := hN41.ext hDd43
                                have hF43_3 := hF43.ext hDd43
                                have hN43_3 := hN43.ext hDd43
                                have hF45_3 := hF45.ext hDd43
                                have hI45_3 := hI45.ext hDd43
                                have hF47_3 := hF47.ext hDd43
                                have hI47_3 := hI47.ext hDd43
                                have hx48_3 := hx48.ext hDd43
                                have hB12_3 := hB12.ext hDd43
                                have hB13_3 := hB13.ext hDd43
                                have hO64_3 := hO64.ext hDd43
                                have hF78_3 := hF78.ext hDd43
                                have hN78_3 := hN78.ext hDd43
                                have hF83_3 := hF83.ext hDd43
                                have hN83_3 := hN83.ext hDd43
                                have hF88_3 := hF88.ext hDd43
                                have hI88_3 := hI88.ext hDd43
                                have hF93_3 := hF93.ext hDd43
                                have hI93_3 := hI93.ext hDd43
                                refine PW_m rfl rfl (ev_call rfl (toNetwork_spec _ B _ hB_3 (by omega) (by omega))) ?_
                                rintro _ w136 ⟨h136, rfl, hF136, hE136⟩
                                have hz136 := hE136.size
                                replace hE := hE.trans hE136
                                replace hDd43 := hDd43.trans hE136
                                replace hF134 := hF134.ext hE136
                                replace hN134 := hN134.ext hE136
                                have hN136 := hF136.is
                                refine ⟨hDd43, ?_⟩
                                have hA_5 := hA.ext hDd43
                                have hB_5 := hB.ext hDd43
                                have hm_5 := hm.ext hDd43
                                have hl_5 := hl.ext hDd43
                                have hB4_5 := hB4.ext hDd43
                                have hB5_5 := hB5.ext hDd43
                                have hF41_5 := hF41.ext hDd43
                                have hN41_5 := hN41.ext hDd43
                                have hF43_5 := hF43.ext hDd43
                                have hN43_5 := hN43.ext hDd43
                                have hF45_5 := hF45.ext hDd43
                                have hI45_5 := hI45.ext hDd43
                                have hF47_5 := hF47.ext hDd43
                                have hI47_5 := hI47.ext hDd43
                                have hx48_5 := hx48.ext hDd43
                                have hB12_5 := hB12.ext hDd43
                                have hB13_5 := hB13.ext hDd43
                                have hO64_5 := hO64.ext hDd43
                                have hF78_5 := hF78.ext hDd43
                                have hN78_5 := hN78.ext hDd43
                                have hF83_5 := hF83.ext hDd43
                                have hN83_5 := hN83.ext hDd43
                                have hF88_5 := hF88.ext hDd43
                                have hI88_5 := hI88.ext hDd43
                                have hF93_5 := hF93.ext hDd43
                                have hI93_5 := hI93.ext hDd43
                                refine PW_m rfl rfl (ev_call rfl (toIntS_spec _ _ m _ hm_5 (by omega) (by omega))) ?_
                                rintro _ w138 ⟨a138, rfl, hF138, hE138⟩
                                have hz138 := hE138.size
                                replace hE := hE.trans hE138
                                replace hDd43 := hDd43.trans hE138
                                replace hF134 := hF134.ext hE138
                                replace hN134 := hN134.ext hE138
                                replace hF136 := hF136.ext hE138
                                replace hN136 := hN136.ext hE138
                                have hI138 := hF138.is
                                refine ⟨hDd43, ?_⟩
                                have hA_7 := hA.ext hDd43
                                have hB_7 := hB.ext hDd43
                                have hm_7 := hm.ext hDd43
                                have hl_7 := hl.ext hDd43
                                have hB4_7 := hB4.ext hDd43
                                have hB5_7 := hB5.ext hDd43
                                have hF41_7 := hF41.ext hDd43
                                have hN41_7 := hN41.ext hDd43
                                have hF43_7 := hF43.ext hDd43
                                have hN43_7 := hN43.ext hDd43
                                have hF45_7 := hF45.ext hDd43
                                have hI45_7 := hI45.ext hDd43
                                have hF47_7 := hF47.ext hDd43
                                have hI47_7 := hI47.ext hDd43
                                have hx48_7 := hx48.ext hDd43
                                have hB12_7 := hB12.ext hDd43
                                have hB13_7 := hB13.ext hDd43
                                have hO64_7 := hO64.ext hDd43
                                have hF78_7 := hF78.ext hDd43
                                have hN78_7 := hN78.ext hDd43
                                have hF83_7 := hF83.ext hDd43
                                have hN83_7 := hN83.ext hDd43
                                have hF88_7 := hF88.ext hDd43
                                have hI88_7 := hI88.ext hDd43
                                have hF93_7 := hF93.ext hDd43
                                have hI93_7 := hI93.ext hDd43
                                refine PW_m rfl rfl (ev_call rfl (toIntS_spec _ _ l _ hl_7 (by omega) (by omega))) ?_
                                rintro _ w140 ⟨a140, rfl, hF140, hE140⟩
                                have hz140 := hE140.size
                                replace hE := hE.trans hE140
                                replace hDd43 := hDd43.trans hE140
                                replace hF134 := hF134.ext hE140
                                replace hN134 := hN134.ext hE140
                                replace hF136 := hF136.ext hE140
                                replace hN136 := hN136.ext hE140
                                replace hF138 := hF138.ext hE140
                                replace hI138 := hI138.ext hE140
                                have hI140 := hF140.is
                                refine ⟨hDd43, ?_⟩
                                have hA_8 := hA.ext hDd43
                                have hB_8 := hB.ext hDd43
                                have hm_8 := hm.ext hDd43
                                have hl_8 := hl.ext hDd43
                                have hB4_8 := hB4.ext hDd43
                                have hB5_8 := hB5.ext hDd43
                                have hF41_8 := hF41.ext hDd43
                                have hN41_8 := hN41.ext hDd43
                                have hF43_8 := hF43.ext hDd43
                                have hN43_8 := hN43.ext hDd43
                                have hF45_8 := hF45.ext hDd43
                                have hI45_8 := hI45.ext hDd43
                                have hF47_8 := hF47.ext hDd43
                                have hI47_8 := hI47.ext hDd43
                                have hx48_8 := hx48.ext hDd43
                                have hB12_8 := hB12.ext hDd43
                                have hB13_8 := hB13.ext hDd43
                                have hO64_8 := hO64.ext hDd43
                                have hF78_8 := hF78.ext hDd43
                                have hN78_8 := hN78.ext hDd43
                                have hF83_8 := hF83.ext hDd43
                                have hN83_8 := hN83.ext hDd43
                                have hF88_8 := hF88.ext hDd43
                                have hI88_8 := hI88.ext hDd43
                                have hF93_8 := hF93.ext hDd43
                                have hI93_8 := hI93.ext hDd43
                                refine PW_m rfl rfl (ev_call rfl (PushNodes_spec _ A _ B _ _ m _ _ l _ hN134 (by omega) (by omega) hN136 (by omega) (by omega) hI138 (by omega) (by omega) hI140 (by omega) (by omega))) ?_
                                rintro _ w141 ⟨a141, c141, y141, q141, rfl, hr141, hO141, hl141, hE141⟩
                                have hz141 := hE141.size
                                replace hE := hE.trans hE141
                                replace hDd43 := hDd43.trans hE141
                                replace hF134 := hF134.ext hE141
                                replace hN134 := hN134.ext hE141
                                replace hF136 := hF136.ext hE141
                                replace hN136 := hN136.ext hE141
                                replace hF138 := hF138.ext hE141
                                replace hI138 := hI138.ext hE141
                                replace hF140 := hF140.ext hE141
                                replace hI140 := hI140.ext hE141
                                refine ⟨hDd43, ?_⟩
                                refine PW_q rfl rfl (fun wq hq => ev_move rfl) ?_
                                refine PW_q rfl rfl (fun wq hq => ev_extract rfl rfl) ?_
                                refine PW_q rfl rfl (fun wq hq => ev_extract rfl rfl) ?_
                                refine PW_q rfl rfl (fun wq hq => ev_assign rfl) ?_
                                refine PW_q rfl rfl (fun wq hq => ev_assign rfl) ?_
                                replace hA := hA.ext hDd43
                                replace hB := hB.ext hDd43
                                replace hm := hm.ext hDd43
                                replace hl := hl.ext hDd43
                                replace hB4 := hB4.ext hDd43
                                replace hB5 := hB5.ext hDd43
                                replace hF41 := hF41.ext hDd43
                                replace hN41 := hN41.ext hDd43
                                replace hF43 := hF43.ext hDd43
                                replace hN43 := hN43.ext hDd43
                                replace hF45 := hF45.ext hDd43
                                replace hI45 := hI45.ext hDd43
                                replace hF47 := hF47.ext hDd43
                                replace hI47 := hI47.ext hDd43
                                replace hx48 := hx48.ext hDd43
                                replace hB12 := hB12.ext hDd43
                                replace hB13 := hB13.ext hDd43
                                replace hO64 := hO64.ext hDd43
                                replace hF78 := hF78.ext hDd43
                                replace hN78 := hN78.ext hDd43
                                replace hF83 := hF83.ext hDd43
                                replace hN83 := hN83.ext hDd43
                                replace hF88 := hF88.ext hDd43
                                replace hI88 := hI88.ext hDd43
                                replace hF93 := hF93.ext hDd43
                                replace hI93 := hI93.ext hDd43
                                refine PW_nil ?_
                                refine thenE_n ?_
                                refine W_seq ?_
                                refine W_seq ?_
                                refine W_region ?_
                                refine WL_q rfl (ev_move rfl) ?_
                                refine WL_q rfl (ev_move rfl) ?_
                                refine WL_m rfl (ev_call rfl (eqIntS_spec _ _ _ _ y141 y48 _ (ownt_i hO141) hx48 (by omega))) ?_
                                rintro _ w146 ⟨rfl, hE146⟩
                                have hz146 := hE146.size
                                replace hE := hE.trans hE146
                                replace hA := hA.ext hE146
                                replace hB := hB.ext hE146
                                replace hm := hm.ext hE146
                                replace hl := hl.ext hE146
                                replace hB4 := hB4.ext hE146
                                replace hB5 := hB5.ext hE146
                                replace hF41 := hF41.ext hE146
                                replace hN41 := hN41.ext hE146
                                replace hF43 := hF43.ext hE146
                                replace hN43 := hN43.ext hE146
                                replace hF45 := hF45.ext hE146
                                replace hI45 := hI45.ext hE146
                                replace hF47 := hF47.ext hE146
                                replace hI47 := hI47.ext hE146
                                replace hx48 := hx48.ext hE146
                                replace hB12 := hB12.ext hE146
                                replace hB13 := hB13.ext hE146
                                replace hO64 := hO64.ext hE146
                                replace hF78 := hF78.ext hE146
                                replace hN78 := hN78.ext hE146
                                replace hF83 := hF83.ext hE146
                                replace hN83 := hN83.ext hE146
                                replace hF88 := hF88.ext hE146
                                replace hI88 := hI88.ext hE146
                                replace hF93 := hF93.ext hE146
                                replace hI93 := hI93.ext hE146
                                replace hF134 := hF134.ext hE146
                                replace hN134 := hN134.ext hE146
                                replace hF136 := hF136.ext hE146
                                replace hN136 := hN136.ext hE146
                                replace hF138 := hF138.ext hE146
                                replace hI138 := hI138.ext hE146
                                replace hF140 := hF140.ext hE146
                                replace hI140 := hI140.ext hE146
                                replace hO141 := hO141.ext hE146
                                refine WL_q rfl (ev_not rfl) ?_
                                refine WL_q rfl (ev_move rfl) ?_
                                refine WL_splitv (t := 148) rfl (fun hg147 => ?_) (fun hg147 => ?_)
                                · have hg146 := not_true hg147
                                  refine WL_no rfl rfl hg147 rfl ?_
                                  refine WL_no rfl rfl hg147 rfl ?_
                                  refine WL_no rfl rfl hg147 rfl ?_
                                  refine WL_q rfl (ev_pick_t rfl hg147 rfl) ?_
                                  refine WL_nil ?_
                                  refine thenE_n ?_
                                  refine W_cond_t rfl ?_
                                  refine W_seq ?_
                                  refine W_region ?_
                                  refine WL_q rfl (ev_assign rfl) ?_
                                  refine WL_nil ?_
                                  refine thenE_n ?_
                                  refine W_ret ?_
                                  refine thenE_r ?_
                                  refine ret1 rfl rfl ?_
                                  first | (exact ⟨rfl, hE⟩) | (exact (bneE hg146 (hr141.det1 hr48)).elim) | (exact absurd (hr141.det1 hr48) hp146) | (exact absurd (hr141.det1 hr48) (of_decide_eq_false hg146)) | (exact (bneE hg146 (hr141.det2 hr48)).elim) | (exact absurd (hr141.det2 hr48) hp146) | (exact absurd (hr141.det2 hr48) (of_decide_eq_false hg146)) | (exact (bneE hg146 (hr141.det3 hr48)).elim) | (exact absurd (hr141.det3 hr48) hp146) | (exact absurd (hr141.det3 hr48) (of_decide_eq_false hg146)) | (exact (bneE hg146 (hr64.det1 hr48)).elim) | (exact absurd (hr64.det1 hr48) hp146) | (exact absurd (hr64.det1 hr48) (of_decide_eq_false hg146)) | (exact (bneE hg146 (hr64.det2 hr48)).elim) | (exact absurd (hr64.det2 hr48) hp146) | (exact absurd (hr64.det2 hr48) (of_decide_eq_false hg146)) | (exact (bneE hg146 (hr64.det3 hr48)).elim) | (exact absurd (hr64.det3 hr48) hp146) | (exact absurd (hr64.det3 hr48) (of_decide_eq_false hg146)) | (exact (tfX hg146).elim) | (exact (decF hg146).elim) | (exfalso; omega)
                                · have hg146 := not_false hg147
                                  refine WL_qg rfl rfl hg147 rfl (ev_move rfl) ?_
                                  refine WL_qg rfl rfl hg147 rfl (ev_move rfl) ?_
                                  refine WL_qg rfl rfl hg147 rfl (ev_neq_b Try.underlying4 rfl rfl) ?_
                                  refine WL_q rfl (ev_pick_f rfl hg147 rfl) ?_
                                  refine WL_nil ?_
                                  refine thenE_n ?_
                                  refine W_cond rfl (fun hg151 => ?_) (fun hg151 => ?_)
                                  · refine W_seq ?_
                                    refine W_region ?_
                                    refine WL_q rfl (ev_assign rfl) ?_
                                    refine WL_nil ?_
                                    refine thenE_n ?_
                                    refine W_ret ?_
                                    refine thenE_r ?_
                                    refine ret1 rfl rfl ?_
                                    first | (exact ⟨rfl, hE⟩) | (exact (bneE hg151 (hr141.det1 hr48)).elim) | (exact absurd (hr141.det1 hr48) hp151) | (exact absurd (hr141.det1 hr48) (of_decide_eq_false hg151)) | (exact (bneE hg151 (hr141.det2 hr48)).elim) | (exact absurd (hr141.det2 hr48) hp151) | (exact absurd (hr141.det2 hr48) (of_decide_eq_false hg151)) | (exact (bneE hg151 (hr141.det3 hr48)).elim) | (exact absurd (hr141.det3 hr48) hp151) | (exact absurd (hr141.det3 hr48) (of_decide_eq_false hg151)) | (exact (bneE hg151 (hr64.det1 hr48)).elim) | (exact absurd (hr64.det1 hr48) hp151) | (exact absurd (hr64.det1 hr48) (of_decide_eq_false hg151)) | (exact (bneE hg151 (hr64.det2 hr48)).elim) | (exact absurd (hr64.det2 hr48) hp151) | (exact absurd (hr64.det2 hr48) (of_decide_eq_false hg151)) | (exact (bneE hg151 (hr64.det3 hr48)).elim) | (exact absurd (hr64.det3 hr48) hp151) | (exact absurd (hr64.det3 hr48) (of_decide_eq_false hg151)) | (exact (tfX hg151).elim) | (exact (decF hg151).elim) | (exfalso; omega)
                                  · refine W_skip ?_
                                    refine thenE_n ?_
                                    refine W_seq ?_
                                    refine W_region ?_
                                    refine WL_q rfl (ev_assign rfl) ?_
                                    refine WL_nil ?_
                                    refine thenE_n ?_
                                    refine W_seq ?_
                                    refine W_region ?_
                                    refine WL_q rfl (ev_move rfl) ?_
                                    refine WL_q rfl (ev_move rfl) ?_
                                    refine WL_m rfl (ev_call rfl (heldIntS_spec _ _ (nums 1 y64.length) _ _ (Ints.of_own (nums_len _ _) hO64.1) rfl (by omega) (by omega))) ?_
                                    rintro _ w155 ⟨rfl, hE155⟩
                                    have hz155 := hE155.size
                                    replace hE := hE.trans hE155
                                    replace hA := hA.ext hE155
                                    replace hB := hB.ext hE155
                                    replace hm := hm.ext hE155
                                    replace hl := hl.ext hE155
                                    replace hB4 := hB4.ext hE155
                                    replace hB5 := hB5.ext hE155
                                    replace hF41 := hF41.ext hE155
                                    replace hN41 := hN41.ext hE155
                                    replace hF43 := hF43.ext hE155
                                    replace hN43 := hN43.ext hE155
                                    replace hF45 := hF45.ext hE155
                                    replace hI45 := hI45.ext hE155
                                    replace hF47 := hF47.ext hE155
                                    replace hI47 := hI47.ext hE155
                                    replace hx48 := hx48.ext hE155
                                    replace hB12 := hB12.ext hE155
                                    replace hB13 := hB13.ext hE155
                                    replace hO64 := hO64.ext hE155
                                    replace hF78 := hF78.ext hE155
                                    replace hN78 := hN78.ext hE155
                                    replace hF83 := hF83.ext hE155
                                    replace hN83 := hN83.ext hE155
                                    replace hF88 := hF88.ext hE155
                                    replace hI88 := hI88.ext hE155
                                    replace hF93 := hF93.ext hE155
                                    replace hI93 := hI93.ext hE155
                                    replace hF134 := hF134.ext hE155
                                    replace hN134 := hN134.ext hE155
                                    replace hF136 := hF136.ext hE155
                                    replace hN136 := hN136.ext hE155
                                    replace hF138 := hF138.ext hE155
                                    replace hI138 := hI138.ext hE155
                                    replace hF140 := hF140.ext hE155
                                    replace hI140 := hI140.ext hE155
                                    replace hO141 := hO141.ext hE155
                                    refine WL_q rfl (ev_assign rfl) ?_
                                    refine WL_nil ?_
                                    refine thenE_n ?_
                                    refine W_seq ?_
                                    refine W_seq ?_
                                    refine W_region ?_
                                    refine WL_q rfl (ev_move rfl) ?_
                                    refine WL_q rfl (ev_lss rfl rfl) ?_
                                    refine WL_nil ?_
                                    refine thenE_n ?_
                                    refine W_cond rfl (fun hg157 => ?_) (fun hg157 => ?_)
                                    · have hp157 := of_decide_eq_true hg157
                                      refine W_seq ?_
                                      refine W_region ?_
                                      refine WL_q rfl (ev_assign rfl) ?_
                                      refine WL_nil ?_
                                      refine thenE_n ?_
                                      refine W_ret ?_
                                      refine thenE_r ?_
                                      refine ret1 rfl rfl ?_
                                      first | (exact ⟨rfl, hE⟩) | (exact (bneE hg157 (hr141.det1 hr48)).elim) | (exact absurd (hr141.det1 hr48) hp157) | (exact absurd (hr141.det1 hr48) (of_decide_eq_false hg157)) | (exact (bneE hg157 (hr141.det2 hr48)).elim) | (exact absurd (hr141.det2 hr48) hp157) | (exact absurd (hr141.det2 hr48) (of_decide_eq_false hg157)) | (exact (bneE hg157 (hr141.det3 hr48)).elim) | (exact absurd (hr141.det3 hr48) hp157) | (exact absurd (hr141.det3 hr48) (of_decide_eq_false hg157)) | (exact (bneE hg157 (hr64.det1 hr48)).elim) | (exact absurd (hr64.det1 hr48) hp157) | (exact absurd (hr64.det1 hr48) (of_decide_eq_false hg157)) | (exact (bneE hg157 (hr64.det2 hr48)).elim) | (exact absurd (hr64.det2 hr48) hp157) | (exact absurd (hr64.det2 hr48) (of_decide_eq_false hg157)) | (exact (bneE hg157 (hr64.det3 hr48)).elim) | (exact absurd (hr64.det3 hr48) hp157) | (exact absurd (hr64.det3 hr48) (of_decide_eq_false hg157)) | (exact (tfX hg157).elim) | (exact (decF hg157).elim) | (exfalso; omega)
                                    · have hp157 := of_decide_eq_false hg157
                                      refine W_skip ?_
                                      refine thenE_n ?_
                                      refine W_seq ?_
                                      refine W_seq ?_
                                      refine W_region ?_
                                      refine WL_q rfl (ev_move rfl) ?_
                                      refine WL_q rfl (ev_move rfl) ?_
                                      refine WL_q rfl (ev_neq rfl rfl) ?_
                                      refine WL_nil ?_
                                      refine thenE_n ?_
                                      refine W_cond rfl (fun hg160 => ?_) (fun hg160 => ?_)
                                      · have hp160 := of_decide_eq_true hg160
                                        refine W_seq ?_
                                        refine W_region ?_
                                        refine WL_q rfl (ev_assign rfl) ?_
                                        refine WL_nil ?_
                                        refine thenE_n ?_
                                        refine W_ret ?_
                                        refine thenE_r ?_
                                        refine ret1 rfl rfl ?_
                                        first | (exact ⟨rfl, hE⟩) | (exact (bneE hg160 (hr141.det1 hr48)).elim) | (exact absurd (hr141.det1 hr48) hp160) | (exact absurd (hr141.det1 hr48) (of_decide_eq_false hg160)) | (exact (bneE hg160 (hr141.det2 hr48)).elim) | (exact absurd (hr141.det2 hr48) hp160) | (exact absurd (hr141.det2 hr48) (of_decide_eq_false hg160)) | (exact (bneE hg160 (hr141.det3 hr48)).elim) | (exact absurd (hr141.det3 hr48) hp160) | (exact absurd (hr141.det3 hr48) (of_decide_eq_false hg160)) | (exact (bneE hg160 (hr64.det1 hr48)).elim) | (exact absurd (hr64.det1 hr48) hp160) | (exact absurd (hr64.det1 hr48) (of_decide_eq_false hg160)) | (exact (bneE hg160 (hr64.det2 hr48)).elim) | (exact absurd (hr64.det2 hr48) hp160) | (exact absurd (hr64.det2 hr48) (of_decide_eq_false hg160)) | (exact (bneE hg160 (hr64.det3 hr48)).elim) | (exact absurd (hr64.det3 hr48) hp160) | (exact absurd (hr64.det3 hr48) (of_decide_eq_false hg160)) | (exact (tfX hg160).elim) | (exact (decF hg160).elim) | (exfalso; omega)
                                      · have hp160 := of_decide_eq_false hg160
                                        refine W_skip ?_
                                        refine thenE_n ?_
                                        refine W_seq ?_
                                        refine W_region ?_
                                        refine WL_q rfl (ev_assign rfl) ?_
                                        refine WL_nil ?_
                                        refine thenE_n ?_
                                        refine W_ret ?_
                                        refine ret1 rfl rfl ?_
                                        first | (exact ⟨rfl, hE⟩) | (exact (bneE hg160 (hr141.det1 hr48)).elim) | (exact absurd (hr141.det1 hr48) hp160) | (exact absurd (hr141.det1 hr48) (of_decide_eq_false hg160)) | (exact (bneE hg160 (hr141.det2 hr48)).elim) | (exact absurd (hr141.det2 hr48) hp160) | (exact absurd (hr141.det2 hr48) (of_decide_eq_false hg160)) | (exact (bneE hg160 (hr141.det3 hr48)).elim) | (exact absurd (hr141.det3 hr48) hp160) | (exact absurd (hr141.det3 hr48) (of_decide_eq_false hg160)) | (exact (bneE hg160 (hr64.det1 hr48)).elim) | (exact absurd (hr64.det1 hr48) hp160) | (exact absurd (hr64.det1 hr48) (of_decide_eq_false hg160)) | (exact (bneE hg160 (hr64.det2 hr48)).elim) | (exact absurd (hr64.det2 hr48) hp160) | (exact absurd (hr64.det2 hr48) (of_decide_eq_false hg160)) | (exact (bneE hg160 (hr64.det3 hr48)).elim) | (exact absurd (hr64.det3 hr48) hp160) | (exact absurd (hr64.det3 hr48) (of_decide_eq_false hg160)) | (exact (tfX hg160).elim) | (exact (decF hg160).elim) | (exfalso; omega)

end Go.Proofs.Ytgnlfhggebijcaa
