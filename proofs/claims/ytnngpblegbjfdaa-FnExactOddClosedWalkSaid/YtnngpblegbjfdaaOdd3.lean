/- Contract of spec.OddClosedWalk. -/
import Derived.Test.YtnngpblegbjfdaaOdd2
namespace Go.Proofs.Ytnngpblegbjfdaa
open Go Go.RowKit

theorem om_to {ends : Ends} (hk : EndsOk ends) {best sp : Int} (g : OMs ends ends.length 1 best sp) : (best = 0 ∧ ∀ v, v < ends.length → ¬ 0 < oD ends v) ∨ (0 < best ∧ best ≤ ends.length ∧ best % 2 = 1 ∧ OMi ends ends.length sp best) := by
  rcases g with ⟨g2, g3⟩ | ⟨s, b, g2, g3, g4, g5, g6, g7⟩
  · refine .inl ⟨g2, fun v hv hp => ?_⟩
    obtain ⟨h1, h2⟩ := oD_walk hk hv (by omega)
    obtain ⟨d', v', k1, k2, k3, k4⟩ := odd_short hk _ _ h1 h2
    obtain ⟨r1, r2⟩ := k4.rng hk
    have e : v' = ((v'.toNat : Nat) : Int) := by omega
    rw [e] at k4
    exact g3 v'.toNat d' ⟨k3, k2, .inl r2⟩ ((hit_iff hk r2).2 k4)
  · have hs : s < ends.length := by unfold vis at g4; omega
    have hb1 := g4.1
    have hbn := g4.2.1
    have l1 := oD_least hk hs ((hit_iff hk hs).1 g5) hb1
    have vh : ∀ v, v < ends.length → 0 < oD ends v → oD ends v ≤ ends.length → vis ends ends.length 1 v (oD ends v).toNat ∧ hit ends v (oD ends v).toNat := fun v hv hp hl => by
      obtain ⟨w1, w2⟩ := oD_walk hk hv (by omega)
      exact ⟨⟨w2, by omega, .inl hv⟩, (hit_iff hk hv).2 w1⟩
    have p1 : 0 < oD ends s := by obtain ⟨_, w2⟩ := oD_walk hk hs l1.1; omega
    have l2 := g6 s _ (vh s hs p1 (by omega)).1 (vh s hs p1 (by omega)).2
    refine .inr ⟨by omega, by omega, by omega, .inr ⟨s, g2, hs, by omega, by omega, fun v hv hp => ?_, fun v hv hp => ?_⟩⟩
    · by_cases hl : oD ends v ≤ ends.length
      · have := g6 v _ (vh v hv hp hl).1 (vh v hv hp hl).2; omega
      · omega
    · by_cases hl : oD ends v ≤ ends.length
      · have := g7 v _ (vh v (by omega) hp hl).1 (vh v (by omega) hp hl).2 hv; omega
      · omega
/-- What OddClosedWalk returns. -/
def OW (A : Net) (ys : List Int) (q : Bool) : Prop := (q = false ∧ ys = [] ∧ (NOk A → ∀ v, v < A.ends.length → ¬ 0 < oD A.ends v)) ∨ (q = true ∧ NOk A ∧ ∃ s b : Nat, OMi A.ends A.ends.length (s : Int) (b : Int) ∧ ys = pathO A.ends s b b)
theorem OMi.get {ends : Ends} {n s b : Nat} (h : OMi ends n (s : Int) (b : Int)) : s < n ∧ oD ends s = (b : Int) ∧ 0 < b ∧ (∀ v, v < n → 0 < oD ends v → (b : Int) ≤ oD ends v) ∧ ∀ v, v < s → 0 < oD ends v → (b : Int) < oD ends v := by
  rcases h with ⟨h2, _⟩ | ⟨s', h2, h3, h4, h5, h6, h7⟩
  · omega
  · have e : s = s' := by omega
    subst e
    exact ⟨h3, h4, by omega, h6, h7⟩
theorem OMi.uniq {ends : Ends} {n s b s' b' : Nat} (h : OMi ends n (s : Int) (b : Int)) (k : OMi ends n (s' : Int) (b' : Int)) : s = s' ∧ b = b' := by
  obtain ⟨h1, h2, h3, h4, h5⟩ := h.get
  obtain ⟨k1, k2, k3, k4, k5⟩ := k.get
  have a1 := h4 s' k1 (by omega)
  have a2 := k4 s h1 (by omega)
  have eb : b = b' := by omega
  refine ⟨?_, eb⟩
  rcases Nat.lt_trichotomy s s' with c | c | c
  · have := k5 s c (by omega); omega
  · exact c
  · have := h5 s' c (by omega); omega
theorem OW.det1 {A : Net} {ys zs : List Int} {q q' : Bool} (h : OW A ys q) (k : OW A zs q') : ys = zs := by
  rcases h with ⟨_, e, h1⟩ | ⟨_, ho, s, b, h1, e⟩ <;> rcases k with ⟨_, f, k1⟩ | ⟨_, ko, s', b', k1, f⟩
  · rw [e, f]
  · obtain ⟨a1, a2, a3, _⟩ := k1.get; exact absurd (by omega) (h1 ko s' a1)
  · obtain ⟨a1, a2, a3, _⟩ := h1.get; exact absurd (by omega) (k1 ho s a1)
  · obtain ⟨e1, e2⟩ := h1.uniq k1; subst e1 e2; rw [e, f]
theorem OW.det2 {A : Net} {ys zs : List Int} {q q' : Bool} (h : OW A ys q) (k : OW A zs q') : q = q' := by
  rcases h with ⟨a, e, h1⟩ | ⟨a, ho, s, b, h1, e⟩ <;> rcases k with ⟨c, f, k1⟩ | ⟨c, ko, s', b', k1, f⟩
  · rw [a, c]
  · obtain ⟨a1, a2, a3, _⟩ := k1.get; exact absurd (by omega) (h1 ko s' a1)
  · obtain ⟨a1, a2, a3, _⟩ := h1.get; exact absurd (by omega) (k1 ho s a1)
  · rw [a, c]
theorem hit_at {ends : Ends} {i k m : Nat} {h : k < (stK ends i m).length} {h2 : i < (stK ends i m)[k].length} : hit ends i k ↔ (stK ends i m)[k][i] = true := by
  unfold hit
  have e : (stK ends i m)[k] = stL ends i k := stK_at h
  have h3 : i < (stL ends i k).length := by rw [← e]; exact h2
  rw [getD_eq h3]
  simp only [e]

theorem stb_at {ends : Ends} {g k m u : Nat} {h : k < (stK ends g m).length} {h2 : u < (stK ends g m)[k].length} : (stL ends g k).getD u false = (stK ends g m)[k][u] := by
  have e : (stK ends g m)[k] = stL ends g k := stK_at h
  have h3 : u < (stL ends g k).length := by rw [← e]; exact h2
  rw [getD_eq h3]
  simp only [e]
theorem pathO_end {ends : Ends} {s b m : Nat} {h : (((pathO ends s b m).length : Int) - 1).toNat < (pathO ends s b m).length} : (pathO ends s b m)[(((pathO ends s b m).length : Int) - 1).toNat] = (cur ends s b m : Int) := by
  have e : (((pathO ends s b m).length : Int) - 1).toNat = m := by rw [pathO_len]; omega
  simp only [e]
  exact pathO_last (by rw [pathO_len]; omega)

set_option maxHeartbeats 1000000 in
set_option maxRecDepth 100000 in
theorem meOdd_spec {loA hiA : Nat} (nA : NA) (A : Net) (w : World) (hA : IsNet loA hiA w nA A) (hhiA : hiA ≤ w.heap.size) (hnA : totN A ≤ 1048576) (hkA : NOk A) :
    Fn Try.prog 27 #[netV nA A] w (fun o9 w' => ∃ a' c' ys q, o9 = .tuple #[.slice a' ys.length c', VB q] ∧ OW A ys q ∧ Ints 0 w'.heap.size w' a' c' ys ∧ ys.length ≤ 1048576 ∧ Ext w w') := by
  have hqA := totL_len A.ends
  have hmA : totL A.ends + A.ids.length + A.inputs.length ≤ 1048576 := hnA
  have hndA := hkA.nodes
  have hk9 := hkA.endsOk
  have hs9 := hkA.sym
  have h6 := hkA.six
  have hE := Ext.refl w
  refine Fn_of Try.func27 rfl rfl (by kernel_rfl) rfl ?_
  refine W_seq ?_
  refine W_region ?_
  refine WL_m rfl (ev_box rfl) ?_
  rintro _ w1 ⟨rfl, hN1⟩
  have hz1 := hN1.size
  replace hE := hE.trans hN1.ext
  replace hA := hA.ext hN1.ext
  have hB1 : Blk w1 _ _ [_, _, _] := hN1.blk
  refine WL_q rfl (ev_assign rfl) ?_
  refine WL_q rfl (ev_assign rfl) ?_
  refine WL_nil ?_
  refine thenE_n ?_
  refine W_seq ?_
  refine W_region ?_
  refine WL_q rfl (ev_assign rfl) ?_
  refine WL_q rfl (ev_assign rfl) ?_
  refine WL_nil ?_
  refine thenE_n ?_
  refine W_seq ?_
  refine W_seq ?_
  refine W_region ?_
  refine WL_q rfl (ev_fieldAddr fo31_0 rfl) ?_
  refine WL_q rfl (ev_load one29 rfl (hB1.cell rfl)) ?_
  refine WL_q rfl (ev_len Try.underlying29 rfl) ?_
  refine WL_q rfl (ev_move rfl) ?_
  refine WL_nil ?_
  refine thenE_n ?_
  refine W_block ?_
  refine W_loopC (G := Nat × Int × Int) [(1, _), (16, _)] ((Subs.c rfl (Subs.c rfl Subs.n))) (fun ⟨i, be, sp⟩ => [(4, VI be), (5, VI sp), (17, VI (i : Int))]) (fun ⟨i, be, sp⟩ w' => Ext w1 w' ∧ (i ≤ A.ends.length ∧ 0 ≤ be ∧ be ≤ 41) ∧ OMs A.ends i 1 be sp) (fun g => A.ends.length - g.1) (0, 0, 0) ((Subs.c rfl (Subs.c rfl (Subs.c (lkI rfl (by omega)) Subs.n)))) (⟨Ext.refl _, ⟨⟨Nat.zero_le _, by omega, by omega⟩, OMs.zero⟩⟩) ?_
  rintro ⟨i, be, sp⟩ wL0 ⟨hRL0, ⟨hi', hbe1, hbe2⟩, hOM⟩
  have hzL0 := hRL0.size
  replace hE := hE.trans hRL0
  replace hA := hA.ext hRL0
  replace hB1 := hB1.ext hRL0
  refine W_seq ?_
  refine W_region ?_
  refine WL_q rfl (ev_lss rfl rfl) ?_
  refine WL_nil ?_
  refine thenE_n ?_
  refine W_seq ?_
  refine W_cond rfl (fun hg18 => ?_) (fun hg18 => ?_)
  · have hp18 := of_decide_eq_true hg18
    refine W_skip ?_
    refine thenE_n ?_
    refine W_seq ?_
    refine W_block ?_
    refine W_seq ?_
    refine W_region ?_
    refine WL_q rfl (ev_move rfl) ?_
    refine WL_q rfl (ev_assign rfl) ?_
    refine WL_nil ?_
    refine thenE_n ?_
    refine W_seq ?_
    refine W_region ?_
    refine WL_q rfl (ev_loads st31 sz31 rfl (cellsB hB1) rfl) ?_
    refine WL_q rfl (ev_move rfl) ?_
    refine WL_q rfl (ev_fieldAddr fo31_0 rfl) ?_
    refine WL_q rfl (ev_load one29 rfl (hB1.cell rfl)) ?_
    refine WL_q rfl (ev_len Try.underlying29 rfl) ?_
    have hlt : i < A.ends.length := by omega
    refine WL_m rfl (ev_call rfl (meSteps_spec _ A i A.ends.length hlt (by omega) _ hA (by omega) (by omega) hkA)) ?_
    rintro _ w25 ⟨a25, c25, s25, rfl, hK25, hE25⟩
    have hz25 := hE25.size
    replace hE := hE.trans hE25
    replace hRL0 := hRL0.trans hE25
    replace hA := hA.ext hE25
    replace hB1 := hB1.ext hE25
    obtain ⟨gK25, restK25, hgK25, hgl25, hgr25, hKo25, hKg25⟩ := hK25.open (by rw [stK_len]; omega)
    subst hgK25
    have hKl25 := stK_len (ends := A.ends) (g := i) (m := A.ends.length + 1)
    have hbl25 := hK25.len
    refine WL_q rfl (ev_assign rfl) ?_
    refine WL_nil ?_
    refine thenE_n ?_
    refine W_seq ?_
    refine W_region ?_
    refine WL_q rfl (ev_assign rfl) ?_
    refine WL_nil ?_
    refine thenE_n ?_
    refine W_block ?_
    refine W_loopC (G := Nat × Int × Int) [(1, _), (6, _), (7, _), (16, _), (17, _)] ((Subs.c rfl (Subs.c rfl (Subs.c rfl (Subs.c rfl (Subs.c rfl Subs.n)))))) (fun ⟨k, b2, p2⟩ => [(4, VI b2), (5, VI p2), (8, VI (k : Int))]) (fun ⟨k, b2, p2⟩ w' => Ext w25 w' ∧ ((k % 2 = 1 ∧ k ≤ A.ends.length + 2) ∧ 0 ≤ b2 ∧ b2 ≤ 41) ∧ OMs A.ends i k b2 p2) (fun g => A.ends.length + 2 - g.1) (1, be, sp) ((Subs.c rfl (Subs.c rfl (Subs.c (lkI rfl (by omega)) Subs.n)))) (⟨Ext.refl _, ⟨⟨⟨by omega, by omega⟩, hbe1, hbe2⟩, hOM⟩⟩) ?_
    rintro ⟨k, b2, p2⟩ wL2 ⟨hRL2, ⟨⟨hko, hkn⟩, hb21, hb22⟩, hOM2⟩
    have hzL2 := hRL2.size
    replace hE := hE.trans hRL2
    replace hRL0 := hRL0.trans hRL2
    replace hA := hA.ext hRL2
    replace hB1 := hB1.ext hRL2
    replace hK25 := hK25.ext hRL2
    replace hKo25 := hKo25.ext hRL2
    refine W_seq ?_
    refine W_seq ?_
    refine W_region ?_
    refine WL_q rfl (ev_move rfl) ?_
    refine WL_q rfl (ev_move rfl) ?_
    refine WL_q rfl (ev_len Try.underlying71 rfl) ?_
    refine WL_q rfl (ev_lss rfl rfl) ?_
    refine WL_nil ?_
    refine thenE_n ?_
    refine W_cond rfl (fun hg29 => ?_) (fun hg29 => ?_)
    · have hp29 := of_decide_eq_true hg29
      refine W_skip ?_
      refine thenE_n ?_
      refine W_seq ?_
      refine W_block ?_
      refine W_seq ?_
      refine W_region ?_
      have hkk : k < (stK A.ends i (A.ends.length + 1)).length := by omega
      have hbk : k < s25.length := by omega
      have hKr := (hK25.row k hbk hkk).2.2
      have hkr := hK25.row k hbk hkk
      have hkr1 := hkr.1
      have hkr2 := hkr.2.1
      have hrl : (stK A.ends i (A.ends.length + 1))[k].length = A.ends.length := by rw [stK_at]; exact stL_len
      refine WL_q rfl (ev_move rfl) ?_
      refine WL_q rfl (ev_move rfl) ?_
      refine WL_q rfl (ev_indexAddr Try.underlying71 sz73 rfl rfl rfl (by omega) (by omega)) ?_
      refine WL_q rfl (ev_load one73 rfl (hKo25.cellAt (bval_at hbk hkk) (by simp))) ?_
      refine WL_q rfl (ev_move rfl) ?_
      refine WL_q rfl (ev_indexAddr Try.underlying73 sz4 rfl rfl rfl (by omega) (by omega)) ?_
      refine WL_q rfl (ev_load one4 rfl (bcell hKr (i := i) (by omega) (by simp))) ?_
      refine WL_q rfl (ev_move rfl) ?_
      refine WL_splitv (t := 39) rfl (fun hg38 => ?_) (fun hg38 => ?_)
      · refine WL_qg rfl rfl hg38 rfl (ev_move rfl) ?_
        refine WL_qg rfl rfl hg38 rfl (ev_eql rfl rfl) ?_
        refine WL_qg rfl rfl hg38 rfl (ev_move rfl) ?_
        refine WL_splitv (t := 42) rfl (fun hg41 => ?_) (fun hg41 => ?_)
        · have hp41 := of_decide_eq_true hg41
          refine WL_no rfl rfl hg41 rfl ?_
          refine WL_no rfl rfl hg41 rfl ?_
          refine WL_no rfl rfl hg41 rfl ?_
          refine WL_qg rfl rfl hg38 rfl (ev_pick_t rfl hg41 rfl) ?_
          refine WL_q rfl (ev_pick_t rfl hg38 rfl) ?_
          refine WL_nil ?_
          refine thenE_n ?_
          refine W_cond_t rfl ?_
          refine W_seq ?_
          refine W_region ?_
          refine WL_q rfl (ev_move rfl) ?_
          refine WL_q rfl (ev_assign rfl) ?_
          refine WL_nil ?_
          refine thenE_n ?_
          refine W_region ?_
          refine WL_q rfl (ev_move rfl) ?_
          refine WL_q rfl (ev_assign rfl) ?_
          refine WL_nil ?_
          refine blockE_n ?_
          refine thenE_n ?_
          refine W_region ?_
          refine WL_q rfl (ev_move rfl) ?_
          refine WL_q rfl (ev_add rfl rfl (by omega)) ?_
          refine WL_q rfl (ev_assign rfl) ?_
          refine WL_nil ?_
          refine thenE_n ?_
          exact ⟨(k + 2, (k : Int), (i : Int)), (Subs.c rfl (Subs.c rfl (Subs.c rfl (Subs.c rfl (Subs.c rfl Subs.n))))), (Subs.c rfl (Subs.c rfl (Subs.c (lkI rfl (by omega)) Subs.n))), ⟨hRL2, ⟨⟨⟨by omega, by omega⟩, by omega, by omega⟩, hOM2.new hko (by omega) (hit_at.2 hg38) (by omega)⟩⟩, by first | omega | (dsimp only; omega)⟩
        · have hp41 := of_decide_eq_false hg41
          refine WL_qg rfl rfl hg41 rfl (ev_move rfl) ?_
          refine WL_qg rfl rfl hg41 rfl (ev_move rfl) ?_
          refine WL_qg rfl rfl hg41 rfl (ev_lss rfl rfl) ?_
          refine WL_qg rfl rfl hg38 rfl (ev_pick_f rfl hg41 rfl) ?_
          refine WL_q rfl (ev_pick_t rfl hg38 rfl) ?_
          refine WL_nil ?_
          refine thenE_n ?_
          refine W_cond rfl (fun hg45 => ?_) (fun hg45 => ?_)
          · have hp45 := of_decide_eq_true hg45
            refine W_seq ?_
            refine W_region ?_
            refine WL_q rfl (ev_move rfl) ?_
            refine WL_q rfl (ev_assign rfl) ?_
            refine WL_nil ?_
            refine thenE_n ?_
            refine W_region ?_
            refine WL_q rfl (ev_move rfl) ?_
            refine WL_q rfl (ev_assign rfl) ?_
            refine WL_nil ?_
            refine blockE_n ?_
            refine thenE_n ?_
            refine W_region ?_
            refine WL_q rfl (ev_move rfl) ?_
            refine WL_q rfl (ev_add rfl rfl (by omega)) ?_
            refine WL_q rfl (ev_assign rfl) ?_
            refine WL_nil ?_
            refine thenE_n ?_
            exact ⟨(k + 2, (k : Int), (i : Int)), (Subs.c rfl (Subs.c rfl (Subs.c rfl (Subs.c rfl (Subs.c rfl Subs.n))))), (Subs.c rfl (Subs.c rfl (Subs.c (lkI rfl (by omega)) Subs.n))), ⟨hRL2, ⟨⟨⟨by omega, by omega⟩, by omega, by omega⟩, hOM2.new hko (by omega) (hit_at.2 hg38) (by omega)⟩⟩, by first | omega | (dsimp only; omega)⟩
          · have hp45 := of_decide_eq_false hg45
            refine W_skip ?_
            refine blockE_n ?_
            refine thenE_n ?_
            refine W_region ?_
            refine WL_q rfl (ev_move rfl) ?_
            refine WL_q rfl (ev_add rfl rfl (by omega)) ?_
            refine WL_q rfl (ev_assign rfl) ?_
            refine WL_nil ?_
            refine thenE_n ?_
            exact ⟨(k + 2, b2, p2), (Subs.c rfl (Subs.c rfl (Subs.c rfl (Subs.c rfl (Subs.c rfl Subs.n))))), (Subs.c rfl (Subs.c rfl (Subs.c (lkI rfl (by omega)) Subs.n))), ⟨hRL2, ⟨⟨⟨by omega, by omega⟩, hb21, hb22⟩, hOM2.old hko (.inr (by omega))⟩⟩, by first | omega | (dsimp only; omega)⟩
      · refine WL_no rfl rfl hg38 rfl ?_
        refine WL_no rfl rfl hg38 rfl ?_
        refine WL_no rfl rfl hg38 rfl ?_
        refine WL_nou rfl rfl rfl ?_
        refine WL_nou rfl rfl rfl ?_
        refine WL_nou rfl rfl rfl ?_
        refine WL_no rfl rfl hg38 rfl ?_
        refine WL_q rfl (ev_pick_f rfl hg38 rfl) ?_
        refine WL_nil ?_
        refine thenE_n ?_
        refine W_cond_f rfl ?_
        refine W_skip ?_
        refine blockE_n ?_
        refine thenE_n ?_
        refine W_region ?_
        refine WL_q rfl (ev_move rfl) ?_
        refine WL_q rfl (ev_add rfl rfl (by omega)) ?_
        refine WL_q rfl (ev_assign rfl) ?_
        refine WL_nil ?_
        refine thenE_n ?_
        exact ⟨(k + 2, b2, p2), (Subs.c rfl (Subs.c rfl (Subs.c rfl (Subs.c rfl (Subs.c rfl Subs.n))))), (Subs.c rfl (Subs.c rfl (Subs.c (lkI rfl (by omega)) Subs.n))), ⟨hRL2, ⟨⟨⟨by omega, by omega⟩, hb21, hb22⟩, hOM2.old hko (.inl fun h => by have := (hit_at (h := hkk) (h2 := by omega)).1 h; rw [hg38] at this; cases this)⟩⟩, by first | omega | (dsimp only; omega)⟩
    · have hp29 := of_decide_eq_false hg29
      refine W_exit ?_
      refine thenE_x ?_
      refine thenE_x ?_
      refine blockE_hit ?_
      refine blockE_n ?_
      refine thenE_n ?_
      refine W_region ?_
      refine WL_q rfl (ev_add rfl rfl (by omega)) ?_
      refine WL_q rfl (ev_move rfl) ?_
      refine WL_nil ?_
      refine thenE_n ?_
      exact ⟨(i + 1, b2, p2), (Subs.c rfl (Subs.c rfl Subs.n)), (Subs.c rfl (Subs.c rfl (Subs.c (lkI rfl (by omega)) Subs.n))), ⟨hRL0, ⟨⟨by omega, hb21, hb22⟩, hOM2.row (by omega)⟩⟩, by first | omega | (dsimp only; omega)⟩
  · have hp18 := of_decide_eq_false hg18
    refine W_exit ?_
    refine thenE_x ?_
    refine thenE_x ?_
    refine blockE_hit ?_
    refine thenE_n ?_
    refine W_seq ?_
    refine W_seq ?_
    refine W_region ?_
    refine WL_q rfl (ev_move rfl) ?_
    refine WL_q rfl (ev_eql rfl rfl) ?_
    refine WL_nil ?_
    refine thenE_n ?_
    refine W_cond rfl (fun hg52 => ?_) (fun hg52 => ?_)
    · have hp52 := of_decide_eq_true hg52
      refine W_seq ?_
      refine W_region ?_
      refine WL_q rfl (ev_assign rfl) ?_
      refine WL_q rfl (ev_assign rfl) ?_
      refine WL_nil ?_
      refine thenE_n ?_
      refine W_ret ?_
      refine thenE_r ?_
      refine ret2 rfl rfl rfl ?_
      first | (exact ⟨none, 0, [], _, rfl, .inl ⟨rfl, rfl, fun _ => ((om_to hk9 (by have hi9 : i = A.ends.length := (by omega); subst hi9; exact hOM)).resolve_right (fun h => by omega)).2⟩, Ints.nil, by simp, hE⟩) | (have hm9 : m = b := (by omega); subst hm9; exact ⟨_, _, _, _, rfl, .inr ⟨rfl, hkA, s, m, q4, rfl⟩, (ownt_is hO).mono (Nat.zero_le _) (by omega), by omega, hE⟩)
    · have hp52 := of_decide_eq_false hg52
      refine W_skip ?_
      refine thenE_n ?_
      refine W_seq ?_
      refine W_region ?_
      have hi9 : i = A.ends.length := by omega
      subst hi9
      obtain ⟨b, hbb⟩ : ∃ b : Nat, be = (b : Int) := ⟨be.toNat, by omega⟩
      subst hbb
      obtain ⟨q1, q2, q3, q4⟩ := (om_to hk9 hOM).resolve_left (fun h => by omega)
      obtain ⟨s, hss⟩ : ∃ s : Nat, sp = (s : Int) := by rcases q4 with ⟨e, _⟩ | ⟨s, e, _⟩; (rcases hOM with ⟨e1, _⟩ | ⟨s9, b9, e1, _⟩; omega; exact ⟨s9, e1⟩); exact ⟨s, e⟩
      subst hss
      obtain ⟨w1, w2, w3, w4, w5⟩ := q4.get
      have hbo : b % 2 = 1 := by omega
      refine WL_q rfl (ev_loads st31 sz31 rfl (cellsB hB1) rfl) ?_
      refine WL_q rfl (ev_move rfl) ?_
      refine WL_q rfl (ev_move rfl) ?_
      refine WL_m rfl (ev_call rfl (meSteps_spec _ A s b w1 (by omega) _ hA (by omega) (by omega) hkA)) ?_
      rintro _ w56 ⟨a56, c56, s56, rfl, hK56, hE56⟩
      have hz56 := hE56.size
      replace hE := hE.trans hE56
      replace hA := hA.ext hE56
      replace hB1 := hB1.ext hE56
      obtain ⟨gK56, restK56, hgK56, hgl56, hgr56, hKo56, hKg56⟩ := hK56.open (by rw [stK_len]; omega)
      subst hgK56
      have hKl56 := stK_len (ends := A.ends) (g := s) (m := b + 1)
      have hbl56 := hK56.len
      refine WL_q rfl (ev_assign rfl) ?_
      refine WL_nil ?_
      refine thenE_n ?_
      refine W_seq ?_
      refine W_region ?_
      refine WL_q rfl (ev_move rfl) ?_
      refine WL_m rfl (ev_lit1 Try.underlying23 el3 (by decide) (by decide) rfl rfl) ?_
      rintro _ w58 ⟨rfl, hN58⟩
      have hz58 := hN58.size
      replace hE := hE.trans hN58.ext
      replace hA := hA.ext hN58.ext
      replace hB1 := hB1.ext hN58.ext
      replace hK56 := hK56.ext hN58.ext
      replace hKo56 := hKo56.ext hN58.ext
      have hB58 := hN58.blk
      have hO0 : OwnH w56.heap.size w58.heap.size 0 0 w58 3 1 (some ⟨w56.heap.size, 0, none⟩) 1 1 ([(s : Int)].map VI) := ⟨own_of_blk (n := 1) hB58 (by omega) rfl (by omega), fun p hp => ⟨by cases hp; show w56.heap.size < _; omega, .inr (Nat.zero_le _)⟩⟩
      refine WL_q rfl (ev_assign rfl) ?_
      refine WL_nil ?_
      refine thenE_n ?_
      refine W_seq ?_
      refine W_seq ?_
      refine W_region ?_
      refine WL_q rfl (ev_move rfl) ?_
      refine WL_q rfl (ev_sub rfl rfl (by omega)) ?_
      refine WL_q rfl (ev_assign rfl) ?_
      refine WL_nil ?_
      refine thenE_n ?_
      refine W_block ?_
      refine W_loopC (G := Nat × Option Addr × Nat) [(1, _), (9, _)] ((Subs.c rfl (Subs.c rfl Subs.n))) (fun ⟨m, a, c⟩ => [(10, .slice a (pathO A.ends s b m).length c), (11, VI ((b : Int) - 1 - (m : Int)))]) (fun ⟨m, a, c⟩ w' => Lo (w56.heap.size) w58 w' ∧ m ≤ b ∧ OwnH w56.heap.size w'.heap.size 0 0 w' 3 1 a (pathO A.ends s b m).length c ((pathO A.ends s b m).map VI)) (fun g => b - g.1) (0, _, 1) ((Subs.c rfl (Subs.c (lkI rfl (by omega)) Subs.n))) (⟨Lo.refl (by omega), ⟨Nat.zero_le _, hO0⟩⟩) ?_
      rintro ⟨m, a, c⟩ wL4 ⟨hRL4, hm', hO⟩
      have hzL4 := hRL4.size
      replace hA := hA.lo hRL4 (by omega)
      replace hB1 := hB1.lo hRL4 (by omega)
      replace hK56 := hK56.lo hRL4 (by omega)
      replace hKo56 := hKo56.lo hRL4 (by omega)
      replace hE := hE.lo hRL4 (by omega)
      have hpl := pathO_len (ends := A.ends) (s := s) (b := b) (m := m)
      have hci := cur_inv hk9 hs9 w1 w2 hbo m hm'
      have hc1 := hci.1
      refine W_seq ?_
      refine W_seq ?_
      refine W_region ?_
      refine WL_q rfl (ev_move rfl) ?_
      refine WL_q rfl (ev_geq rfl rfl) ?_
      refine WL_nil ?_
      refine thenE_n ?_
      refine W_cond rfl (fun hg62 => ?_) (fun hg62 => ?_)
      · have hp62 := of_decide_eq_true hg62
        refine W_skip ?_
        refine thenE_n ?_
        refine W_seq ?_
        refine W_block ?_
        refine W_seq ?_
        refine W_drawE [(0, true), (1, true), (2, true), (3, true), (4, true), (5, true), (6, true), (7, false), (8, true)] mixed (by kernel_rfl) rfl (by kernel_rfl) ?_
        intro wd20 hEd20 hzd20
        replace hE := hE.trans hEd20
        replace hRL4 := hRL4.trans hEd20
        replace hA := hA.ext hEd20
        replace hB1 := hB1.ext hEd20
        replace hK56 := hK56.ext hEd20
        replace hKo56 := hKo56.ext hEd20
        replace hO := hO.ext hEd20
        have hDd20 := Ext.refl wd20
        have hmb : m < b := by omega
        obtain ⟨k9, hk8⟩ : ∃ k9, b - (m + 1) = k9 := ⟨_, rfl⟩
        have hke : (b : Int) - 1 - (m : Int) = (k9 : Int) := by omega
        have hkk2 : k9 < (stK A.ends s (b + 1)).length := by omega
        have hbk2 : k9 < s56.length := by omega
        have hkr2 := hK56.row k9 hbk2 hkk2
        have hKr2 := hkr2.2.2
        have hkr3 := hkr2.1
        have hkr4 := hkr2.2.1
        have hrl2 : (stK A.ends s (b + 1))[k9].length = A.ends.length := by rw [stK_at]; exact stL_len
        refine PW_q rfl rfl (fun wq hq => ev_loads st31 sz31 rfl (cellsB (hq.blk hB1)) rfl) ?_
        refine PW_q rfl rfl (fun wq hq => ev_move rfl) ?_
        refine PW_q rfl rfl (fun wq hq => ev_move rfl) ?_
        refine PW_q rfl rfl (fun wq hq => ev_len Try.underlying23 rfl) ?_
        refine PW_q rfl rfl (fun wq hq => ev_sub rfl rfl (by omega)) ?_
        refine PW_q rfl rfl (fun wq hq => ev_indexAddr Try.underlying23 sz3 rfl rfl ((ownt_i hO).isSome (by omega)) (by omega) (by omega)) ?_
        have hc71 := (ownt_i hO).cell (i := ((((pathO A.ends s b m).length : Int) - 1)).toNat) (by omega)
        refine PW_q rfl rfl (fun wq hq => ev_load one3 rfl (hq.cell (hc71))) ?_
        rw [pathO_end]
        have hnl : (near A.ends (cur A.ends s b m : Int)).length = A.ends[cur A.ends s b m].length := by have := near_len (ends := A.ends) (x := (cur A.ends s b m : Int)) (by simpa using hc1); simpa using this
        have htl := totL_le hc1
        refine PW_m rfl rfl (ev_call rfl (neNear_spec _ A (cur A.ends s b m : Int) _ hA (by omega) (by omega) (by omega))) ?_
        rintro _ w72 ⟨a72, c72, rfl, hO72, hE72⟩
        have hz72 := hE72.size
        replace hE := hE.trans hE72
        replace hRL4 := hRL4.trans hE72
        replace hDd20 := hDd20.trans hE72
        replace hKr2 := hKr2.ext hE72
        have hI72 := own_i hO72
        refine ⟨hDd20, ?_⟩
        refine PW_q rfl rfl (fun wq hq => ev_assign rfl) ?_
        replace hA := hA.ext hDd20
        replace hB1 := hB1.ext hDd20
        replace hK56 := hK56.ext hDd20
        replace hKo56 := hKo56.ext hDd20
        replace hO := hO.ext hDd20
        refine PW_nil ?_
        refine thenE_n ?_
        refine W_seq ?_
        refine W_region ?_
        refine WL_q rfl (ev_fieldAddr fo31_0 rfl) ?_
        refine WL_q rfl (ev_load one29 rfl (hB1.cell rfl)) ?_
        refine WL_q rfl (ev_len Try.underlying29 rfl) ?_
        refine WL_q rfl (ev_move rfl) ?_
        refine WL_nil ?_
        refine thenE_n ?_
        refine W_block ?_
        refine W_loopC (G := Nat) [(1, _), (9, _), (11, _), (12, _), (75, _)] ((Subs.c rfl (Subs.c rfl (Subs.c rfl (Subs.c rfl (Subs.c rfl Subs.n)))))) (fun u => [(10, .slice a (pathO A.ends s b m).length c), (76, VI (u : Int))]) (fun u w' => Rg w56.heap.size wL4.heap.size 0 0 w72 w' ∧ u ≤ A.ends.length ∧ OwnH w56.heap.size wL4.heap.size 0 0 w' 3 1 a (pathO A.ends s b m).length c ((pathO A.ends s b m).map VI) ∧ ∀ w9, w9 < u → ¬ okW A.ends s (cur A.ends s b m) (b - (m + 1)) w9) (fun g => A.ends.length - g) 0 ((Subs.c rfl (Subs.c (lkI rfl (by omega)) Subs.n))) (⟨Rg.refl, ⟨Nat.zero_le _, hO, fun w9 h => absurd h (Nat.not_lt_zero _)⟩⟩) ?_
        rintro u wL6 ⟨hRL6, hu', hO, hJw⟩
        have hzL6 := hRL6.size
        replace hA := hA.rg hRL6 (by omega)
        replace hB1 := hB1.rg hRL6 (by omega)
        replace hK56 := hK56.rg hRL6 (by omega)
        replace hKo56 := hKo56.rg hRL6 (by omega)
        replace hKr2 := hKr2.rg hRL6 (by omega)
        replace hI72 := hI72.rg hRL6 (by omega)
        replace hE := hE.rg hRL6 (by omega)
        replace hRL4 := hRL4.rg hRL6 (by omega)
        refine W_seq ?_
        refine W_region ?_
        refine WL_q rfl (ev_lss rfl rfl) ?_
        refine WL_nil ?_
        refine thenE_n ?_
        refine W_seq ?_
        refine W_cond rfl (fun hg77 => ?_) (fun hg77 => ?_)
        · have hp77 := of_decide_eq_true hg77
          refine W_skip ?_
          refine thenE_n ?_
          refine W_seq ?_
          refine W_block ?_
          refine W_seq ?_
          refine W_region ?_
          refine WL_q rfl (ev_move rfl) ?_
          refine WL_q rfl (ev_assign rfl) ?_
          refine WL_nil ?_
          refine thenE_n ?_
          refine W_seq ?_
          refine W_region ?_
          have hul : u < A.ends.length := by omega
          refine WL_q rfl (ev_move rfl) ?_
          refine WL_q rfl (ev_move rfl) ?_
          refine WL_m rfl (ev_call rfl (l1Has_spec _ _ (near A.ends (cur A.ends s b m : Int)) _ _ (by first | rfl | omega | simp) hI72 (by omega))) ?_
          rintro _ w81 ⟨b81, rfl, hb81, hE81⟩
          have hz81 := hE81.size
          replace hE := hE.trans hE81
          replace hRL4 := hRL4.trans hE81
          replace hRL6 := hRL6.trans hE81
          replace hA := hA.ext hE81
          replace hB1 := hB1.ext hE81
          replace hK56 := hK56.ext hE81
          replace hKo56 := hKo56.ext hE81
          replace hKr2 := hKr2.ext hE81
          replace hI72 := hI72.ext hE81
          replace hO := hO.ext hE81
          refine WL_q rfl (ev_move rfl) ?_
          refine WL_splitv (t := 82) rfl (fun hg81 => ?_) (fun hg81 => ?_)
          · have hp81 := hb81.1 hg81
            refine WL_qg rfl rfl hg81 rfl (ev_move rfl) ?_
            refine WL_qg rfl rfl hg81 rfl (ev_move rfl) ?_
            rw [hke]
            refine WL_qg rfl rfl hg81 rfl (ev_indexAddr Try.underlying71 sz73 rfl rfl rfl (by omega) (by omega)) ?_
            refine WL_qg rfl rfl hg81 rfl (ev_load one73 rfl (hKo56.cellAt (bval_at hbk2 hkk2) (by simp))) ?_
            refine WL_qg rfl rfl hg81 rfl (ev_move rfl) ?_
            refine WL_qg rfl rfl hg81 rfl (ev_indexAddr Try.underlying73 sz4 rfl rfl rfl (by omega) (by omega)) ?_
            refine WL_qg rfl rfl hg81 rfl (ev_load one4 rfl (bcell hKr2 (i := u) (by omega) (by simp))) ?_
            refine WL_q rfl (ev_pick_t rfl hg81 rfl) ?_
            refine WL_nil ?_
            refine thenE_n ?_
            refine W_cond rfl (fun hg89 => ?_) (fun hg89 => ?_)
            · refine W_seq ?_
              refine W_region ?_
              have hcw : (cur A.ends s b (m + 1) : Int) = (u : Int) := congrArg (fun n : Nat => (n : Int)) (nxt_eq hul ⟨hp81, by rw [hk8, stb_at (h := hkk2) (h2 := by omega)]; exact hg89⟩ hJw)
              refine WL_q rfl (ev_move rfl) ?_
              refine WL_q rfl (ev_move rfl) ?_
              refine WL_m rfl (ev_lit1 Try.underlying23 el3 (by decide) (by decide) rfl rfl) ?_
              rintro _ w93 ⟨rfl, hN93⟩
              have hz93 := hN93.size
              replace hE := hE.trans hN93.ext
              replace hRL4 := hRL4.trans hN93.ext
              replace hRL6 := hRL6.trans hN93.ext
              replace hA := hA.ext hN93.ext
              replace hB1 := hB1.ext hN93.ext
              replace hK56 := hK56.ext hN93.ext
              replace hKo56 := hKo56.ext hN93.ext
              replace hKr2 := hKr2.ext hN93.ext
              replace hI72 := hI72.ext hN93.ext
              replace hO := hO.ext hN93.ext
              have hB93 := hN93.blk
              refine WL_m rfl (ev_appendT Try.underlying23 el3 rfl (by decide) rfl rfl hO (SAt.of_blk (cs := [_]) (ds := []) hB93) rfl (by simp [Value.oneCell']) (by omega) (by unfold maxLen; omega) (by omega)) ?_
              rintro _ w94 ⟨a94, c94, rfl, hO94, hK94, hQ94⟩
              have hz94 := hK94.size
              replace hE := hE.rg hK94 (by omega)
              replace hRL4 := hRL4.rg hK94 (by omega)
              replace hRL6 := hRL6.rg hK94 (by omega)
              replace hA := hA.rg hK94 (by omega)
              replace hB1 := hB1.rg hK94 (by omega)
              replace hK56 := hK56.rg hK94 (by omega)
              replace hKo56 := hKo56.rg hK94 (by omega)
              replace hKr2 := hKr2.rg hK94 (by omega)
              replace hI72 := hI72.rg hK94 (by omega)
              replace hB93 := hB93.rg hK94 (by omega)
              replace hO := hO94
              replace hO := ownt_snocI hO
              refine WL_q rfl (ev_assign rfl) ?_
              refine WL_nil ?_
              refine thenE_n ?_
              refine W_exit ?_
              refine blockE_x rfl ?_
              refine thenE_x ?_
              refine thenE_x ?_
              refine blockE_hit ?_
              refine blockE_n ?_
              refine thenE_n ?_
              refine W_region ?_
              refine WL_q rfl (ev_move rfl) ?_
              refine WL_q rfl (ev_sub rfl rfl (by omega)) ?_
              refine WL_q rfl (ev_assign rfl) ?_
              refine WL_nil ?_
              refine thenE_n ?_
              exact ⟨(m + 1, a94, c94), (Subs.c rfl (Subs.c rfl Subs.n)), (Subs.c (lkS rfl (by simp [pathO])) (Subs.c (lkI rfl (by omega)) Subs.n)), ⟨hRL4, ⟨by omega, (ownt_to hO (by rw [← pathO_succ, hcw]) (by simp [pathO])).up (Nat.le_refl _) (by omega)⟩⟩, by first | omega | (dsimp only; omega)⟩
            · refine W_skip ?_
              refine blockE_n ?_
              refine thenE_n ?_
              refine W_region ?_
              refine WL_q rfl (ev_add rfl rfl (by omega)) ?_
              refine WL_q rfl (ev_move rfl) ?_
              refine WL_nil ?_
              refine thenE_n ?_
              exact ⟨u + 1, (Subs.c rfl (Subs.c rfl (Subs.c rfl (Subs.c rfl (Subs.c rfl Subs.n))))), (Subs.c rfl (Subs.c (lkI rfl (by omega)) Subs.n)), ⟨hRL6, ⟨by omega, hO, fun w9 h9 hok => by
  by_cases e : w9 = u
  · subst e; rw [hk8] at hok; exact absurd hok.2 (by rw [stb_at (h := hkk2) (h2 := by omega), hg89]; simp)
  · exact hJw w9 (by omega) hok⟩⟩, by first | omega | (dsimp only; omega)⟩
          · have hp81 := ttN hb81 hg81
            refine WL_no rfl rfl hg81 rfl ?_
            refine WL_no rfl rfl hg81 rfl ?_
            refine WL_no rfl rfl hg81 rfl ?_
            refine WL_no rfl rfl hg81 rfl ?_
            refine WL_no rfl rfl hg81 rfl ?_
            refine WL_no rfl rfl hg81 rfl ?_
            refine WL_no rfl rfl hg81 rfl ?_
            refine WL_q rfl (ev_pick_f rfl hg81 rfl) ?_
            refine WL_nil ?_
            refine thenE_n ?_
            refine W_cond_f rfl ?_
            refine W_skip ?_
            refine blockE_n ?_
            refine thenE_n ?_
            refine W_region ?_
            refine WL_q rfl (ev_add rfl rfl (by omega)) ?_
            refine WL_q rfl (ev_move rfl) ?_
            refine WL_nil ?_
            refine thenE_n ?_
            exact ⟨u + 1, (Subs.c rfl (Subs.c rfl (Subs.c rfl (Subs.c rfl (Subs.c rfl Subs.n))))), (Subs.c rfl (Subs.c (lkI rfl (by omega)) Subs.n)), ⟨hRL6, ⟨by omega, hO, fun w9 h9 hok => by
  by_cases e : w9 = u
  · subst e; rw [hk8] at hok; exact hp81 hok.1
  · exact hJw w9 (by omega) hok⟩⟩, by first | omega | (dsimp only; omega)⟩
        · have hp77 := of_decide_eq_false hg77
          refine W_exit ?_
          refine thenE_x ?_
          refine thenE_x ?_
          refine blockE_hit ?_
          refine blockE_n ?_
          refine thenE_n ?_
          refine W_region ?_
          refine WL_q rfl (ev_move rfl) ?_
          refine WL_q rfl (ev_sub rfl rfl (by omega)) ?_
          refine WL_q rfl (ev_assign rfl) ?_
          refine WL_nil ?_
          refine thenE_n ?_
          exact absurd (cur_ok hk9 hs9 w1 w2 hbo hmb).1 (hJw _ (by have := (cur_inv hk9 hs9 w1 w2 hbo (m + 1) (by omega)).1; omega))
      · have hp62 := of_decide_eq_false hg62
        refine W_exit ?_
        refine thenE_x ?_
        refine thenE_x ?_
        refine blockE_hit ?_
        refine thenE_n ?_
        refine W_seq ?_
        refine W_region ?_
        refine WL_q rfl (ev_move rfl) ?_
        refine WL_q rfl (ev_assign rfl) ?_
        refine WL_q rfl (ev_assign rfl) ?_
        refine WL_nil ?_
        refine thenE_n ?_
        refine W_ret ?_
        refine ret2 rfl rfl rfl ?_
        first | (exact ⟨none, 0, [], _, rfl, .inl ⟨rfl, rfl, fun _ => ((om_to hk9 (by have hi9 : i = A.ends.length := (by omega); subst hi9; exact hOM)).resolve_right (fun h => by omega)).2⟩, Ints.nil, by simp, hE⟩) | (have hm9 : m = b := (by omega); subst hm9; exact ⟨_, _, _, _, rfl, .inr ⟨rfl, hkA, s, m, q4, rfl⟩, (ownt_is hO).mono (Nat.zero_le _) (by omega), by omega, hE⟩)

set_option maxRecDepth 100000 in
theorem sOdd_spec {loA hiA : Nat} (nA : NA) (A : Net) (w : World) (hA : IsNet loA hiA w nA A) (hhiA : hiA ≤ w.heap.size) (hnA : totN A ≤ 1048576) :
    Fn Try.prog 10 #[netV nA A] w (fun o9 w' => ∃ a' c' ys q, o9 = .tuple #[.slice a' ys.length c', VB q] ∧ OW A ys q ∧ Ints 0 w'.heap.size w' a' c' ys ∧ ys.length ≤ 1048576 ∧ Ext w w') := by
  have hqA := totL_len A.ends
  have hmA : totL A.ends + A.ids.length + A.inputs.length ≤ 1048576 := hnA
  have hE := Ext.refl w
  refine Fn_of Try.func10 rfl rfl (by kernel_rfl) rfl ?_
  refine W_seq ?_
  refine W_region ?_
  refine WL_m rfl (ev_box rfl) ?_
  rintro _ w1 ⟨rfl, hN1⟩
  have hz1 := hN1.size
  replace hE := hE.trans hN1.ext
  replace hA := hA.ext hN1.ext
  have hB1 : Blk w1 _ _ [_, _, _] := hN1.blk
  refine WL_q rfl (ev_assign rfl) ?_
  refine WL_q rfl (ev_assign rfl) ?_
  refine WL_nil ?_
  refine thenE_n ?_
  refine W_seq ?_
  refine W_seq ?_
  refine W_region ?_
  refine WL_q rfl (ev_loads st31 sz31 rfl (cellsB hB1) rfl) ?_
  refine WL_m rfl (ev_call rfl (neGood_spec _ A _ hA (by omega) (by omega))) ?_
  rintro _ w5 ⟨b5, rfl, hb5, hE5⟩
  have hz5 := hE5.size
  replace hE := hE.trans hE5
  replace hA := hA.ext hE5
  replace hB1 := hB1.ext hE5
  refine WL_q rfl (ev_not rfl) ?_
  refine WL_nil ?_
  refine thenE_n ?_
  refine W_cond rfl (fun hg6 => ?_) (fun hg6 => ?_)
  · have hg5 := not_true hg6
    have hp5 := ttN hb5 hg5
    refine W_seq ?_
    refine W_region ?_
    refine WL_q rfl (ev_assign rfl) ?_
    refine WL_q rfl (ev_assign rfl) ?_
    refine WL_nil ?_
    refine thenE_n ?_
    refine W_ret ?_
    refine thenE_r ?_
    refine ret2 rfl rfl rfl ?_
    first | (exact ⟨none, 0, [], _, rfl, .inl ⟨rfl, rfl, fun h => absurd h hp5⟩, Ints.nil, by simp, hE⟩) | (exact ⟨_, _, _, _, rfl, hr8, hx8, hl8, hE⟩)
  · have hg5 := not_false hg6
    have hp5 := hb5.1 hg5
    refine W_skip ?_
    refine thenE_n ?_
    refine W_seq ?_
    refine W_region ?_
    refine WL_q rfl (ev_loads st31 sz31 rfl (cellsB hB1) rfl) ?_
    refine WL_m rfl (ev_call rfl (meOdd_spec _ A _ hA (by omega) (by omega) (by assumption))) ?_
    rintro _ w8 ⟨a8, c8, y8, q8, rfl, hr8, hx8, hl8, hE8⟩
    have hz8 := hE8.size
    replace hE := hE.trans hE8
    replace hA := hA.ext hE8
    replace hB1 := hB1.ext hE8
    refine WL_q rfl (ev_extract rfl rfl) ?_
    refine WL_q rfl (ev_extract rfl rfl) ?_
    refine WL_q rfl (ev_assign rfl) ?_
    refine WL_q rfl (ev_assign rfl) ?_
    refine WL_nil ?_
    refine thenE_n ?_
    refine W_ret ?_
    refine ret2 rfl rfl rfl ?_
    first | (exact ⟨none, 0, [], _, rfl, .inl ⟨rfl, rfl, fun h => absurd h hp5⟩, Ints.nil, by simp, hE⟩) | (exact ⟨_, _, _, _, rfl, hr8, hx8, hl8, hE⟩)

end Go.Proofs.Ytnngpblegbjfdaa
