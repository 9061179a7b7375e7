/- Contracts of the edges and of TwoColouring, of the program and of the reference; the walk of its law. -/
import Derived.Test.YtnngpblegbjfdaaParts
import Derived.Test.YtnngpblegbjfdaaEdges
import Derived.Test.YtnngpblegbjfdaaDrawV
namespace Go.Proofs.Ytnngpblegbjfdaa
open Go Go.RowKit

theorem ownt_quad {lo hi p q n c : Nat} {w : World} {E : TypeId} {a : Option Addr} {qs : List Quad} {x : Quad} (h : OwnH lo hi p q w E 4 a n c (quadCells qs ++ qCells x)) : OwnH lo hi p q w E 4 a n c (quadCells (qs ++ [x])) := by
  rw [quadCells_app]; simpa [quadCells] using h
theorem ownt_q {lo hi p q n n' c : Nat} {w : World} {E : TypeId} {a : Option Addr} {qs rs : List Quad} (h : OwnH lo hi p q w E 4 a n c (quadCells qs)) (e : qs = rs) (hn : n = n') : OwnH lo hi p q w E 4 a n' c (quadCells rs) := by subst e hn; exact h
theorem NOk.six {n : Net} (h : NOk n) : ∀ r ∈ n.ends, r.length ≤ 6 := by
  intro r hr
  obtain ⟨v, hv, rfl⟩ := List.mem_iff_getElem.1 hr
  have := (h.rows v hv).1; omega
theorem edN_bd {ends : Ends} (h6 : ∀ r ∈ ends, r.length ≤ 6) (h40 : ends.length ≤ 40) {i k : Nat} (hi : i < ends.length) : (edN ends i ++ edR i ends[i] k).length ≤ 240 + k := by
  have h1 := edN_len h6 i (by omega)
  have h2 := edR_len i ends[i] k
  rw [List.length_append]; omega
theorem edL_bd {ends : Ends} (h6 : ∀ r ∈ ends, r.length ≤ 6) (h40 : ends.length ≤ 40) : (edL ends).length ≤ 240 := by
  have h1 := edN_len h6 ends.length (Nat.le_refl _)
  unfold edL; omega
/-- The first i elements, and zeros. -/
def fillL (L : List Int) (i : Nat) : List Int := L.take i ++ List.replicate (L.length - i) 0
theorem fillL_len {L : List Int} {i : Nat} (h : i ≤ L.length) : (fillL L i).length = L.length := by simp [fillL]; omega
theorem fillL_zero (L : List Int) : fillL L 0 = List.replicate L.length 0 := by simp [fillL]
theorem fillL_full {L : List Int} {i : Nat} (h : L.length ≤ i) : fillL L i = L := by simp [fillL, List.take_of_length_le h, Nat.sub_eq_zero_of_le h]
theorem fillL_put {L : List Int} {i : Nat} {x : Int} (h : i < L.length) (hx : x = L[i]) : (fillL L i).set i x = fillL L (i + 1) := by
  subst hx
  unfold fillL
  rw [List.set_append_right _ _ (by simp; omega), show i - (L.take i).length = 0 by simp; omega, show L.length - i = (L.length - (i + 1)) + 1 by omega, List.replicate_succ, List.set_cons_zero, ← List.take_append_getElem h, List.append_assoc]
  rfl
theorem prt_bfs {ends : Ends} (hk : EndsOk ends) (hs : SymE ends) (h40 : ends.length ≤ 40) {i : Nat} (hi : i < (prt ends).length) : (0 ≤ (prt ends)[i] ∧ (prt ends)[i].toNat < ends.length) ∧ (bfs ends (prt ends)[i]).length = ends.length ∧ ∀ h : i < (bfs ends (prt ends)[i]).length, 0 ≤ (bfs ends (prt ends)[i])[i] := by
  have hl := prt_len ends
  obtain ⟨h1, h2, h3⟩ := prt_rng hk hs h40 (show i < ends.length by omega) (h := hi)
  refine ⟨⟨h1, h2⟩, bfs_len hk h1 h2, fun h => ?_⟩
  rw [getD_eq h] at h3; exact h3
theorem not_colOk {ends : Ends} {C : List Int} (hc : ColOk ends C) {q : Quad} (hq : q ∈ edL ends) (h1 : q.1.toNat < C.length) (h2 : q.2.2.1.toNat < C.length) (h : C[q.1.toNat] = C[q.2.2.1.toNat]) : False := by
  have := colOk_bad hc q hq
  rw [getD_eq h1, getD_eq h2] at this
  exact this h
theorem edL_at {ends : Ends} (hk : EndsOk ends) {j : Nat} (h : j < (edL ends).length) : (0 ≤ (edL ends)[j].1 ∧ (edL ends)[j].1.toNat < ends.length) ∧ 0 ≤ (edL ends)[j].2.2.1 ∧ (edL ends)[j].2.2.1.toNat < ends.length := by
  obtain ⟨v, hv, i, hi, _, e⟩ := edL_mem.1 (List.getElem_mem h)
  rw [e]
  have := hk.at hv hi
  exact ⟨⟨by simp, by simpa using hv⟩, this⟩
def ColE (C : List Int) (q : Quad) : Prop := C.getD q.1.toNat 0 ≠ C.getD q.2.2.1.toNat 0
theorem colE_at {C : List Int} {q : Quad} {h1 : q.1.toNat < C.length} {h2 : q.2.2.1.toNat < C.length} (h : ¬ C[q.1.toNat] = C[q.2.2.1.toNat]) : ColE C q := by unfold ColE; rw [getD_eq h1, getD_eq h2]; exact h
theorem colOk_yes {n : Net} (h : NOk n) {C : List Int} {i : Nat} (hc : ∀ j (_h : j < i) (h2 : j < (edL n.ends).length), ColE C (edL n.ends)[j]) (hi : (edL n.ends).length ≤ i) : ColOk n.ends C :=
  colOk_edges h.endsOk (fun _ hv _ hi => h.endOk hv hi) fun q hq => by
    obtain ⟨j, hj, rfl⟩ := List.mem_iff_getElem.1 hq
    exact hc j (by omega) hj
def ColR (ends : Ends) (C : List Int) (v : Nat) : Prop := ∀ k (_h : k < (near ends (v : Int)).length), C.getD v 0 ≠ C.getD ((near ends (v : Int)).getD k 0).toNat 0
theorem colR_all {ends : Ends} {C : List Int} (h : ∀ v (_h : v < ends.length), ColR ends C v) : ColOk ends C := by
  intro v hv e he
  obtain ⟨k, hk, rfl⟩ := List.mem_iff_getElem.1 he
  have hg : near ends (v : Int) = (ends[v]).map Prod.fst := by have := near_get (ends := ends) (w := (v : Int)) (by simpa using hv); simpa using this
  have := h v hv k (by rw [hg]; simpa using hk)
  rw [getD_eq (show k < (near ends (v : Int)).length by rw [hg]; simpa using hk)] at this
  simpa [hg] using this
theorem colR_no {ends : Ends} {C : List Int} (hc : ColOk ends C) {v k : Nat} (hv : v < ends.length) (h : k < (near ends (v : Int)).length) {h1 : v < C.length} {h2 : (near ends (v : Int))[k].toNat < C.length} (e : C[v] = C[(near ends (v : Int))[k].toNat]) : False := by
  have hg : near ends (v : Int) = (ends[v]).map Prod.fst := by have := near_get (ends := ends) (w := (v : Int)) (by simpa using hv); simpa using this
  have hk : k < ends[v].length := by rw [hg] at h; simpa using h
  have h3 := hc v hv _ (List.getElem_mem hk)
  have e2 : (near ends (v : Int))[k] = ends[v][k].1 := by simp [hg]
  rw [getD_eq h1, ← e2, getD_eq h2] at h3
  exact h3 e
theorem colR_at {ends : Ends} {C : List Int} {v k : Nat} (h : k < (near ends (v : Int)).length) {h1 : v < C.length} {h2 : (near ends (v : Int))[k].toNat < C.length} (e : ¬ C[v] = C[(near ends (v : Int))[k].toNat]) : C.getD v 0 ≠ C.getD ((near ends (v : Int)).getD k 0).toNat 0 := by rw [getD_eq h1, getD_eq h, getD_eq h2]; exact e

theorem two_yes {V P : Prop} {x ys : List Int} {q : Bool} (h : V) (k : RV [] (opt P x) ys q) : RV [] (opt (V ∧ P) x) ys q := by
  have e : opt (V ∧ P) x = opt P x := by
    unfold opt
    by_cases hp : P
    · rw [if_pos hp, if_pos ⟨h, hp⟩]
    · rw [if_neg hp, if_neg fun h9 => hp h9.2]
  rw [e]; exact k

set_option maxHeartbeats 4000000 in
set_option maxRecDepth 100000 in
theorem edges_spec {loA hiA : Nat} (nA : NA) (A : Net) (w : World) (hA : IsNet loA hiA w nA A) (hhiA : hiA ≤ w.heap.size) (hnA : totN A ≤ 1048576) (h6 : ∀ r ∈ A.ends, r.length ≤ 6) (h40 : A.ends.length ≤ 40) :
    Fn Try.prog 23 #[netV nA A] w (fun o9 w' => ∃ a' c', o9 = .slice a' (edL A.ends).length c' ∧ Own w.heap.size w' 48 4 a' (edL A.ends).length c' (quadCells (edL A.ends)) ∧ Ext w w') := by
  have hqA := totL_len A.ends
  have hmA : totL A.ends + A.ids.length + A.inputs.length ≤ 1048576 := hnA
  have hE := Ext.refl w
  refine Fn_of Try.func23 rfl rfl (by kernel_rfl) rfl ?_
  refine W_seq ?_
  refine W_region ?_
  refine WL_m rfl (ev_box rfl) ?_
  rintro _ w1 ⟨rfl, hN1⟩
  have hz1 := hN1.size
  replace hE := hE.trans hN1.ext
  replace hA := hA.ext hN1.ext
  have hB1 : Blk w1 _ _ [_, _, _] := hN1.blk
  refine WL_q rfl (ev_assign rfl) ?_
  refine WL_nil ?_
  refine thenE_n ?_
  refine W_seq ?_
  refine W_region ?_
  refine WL_q rfl (ev_assign rfl) ?_
  refine WL_nil ?_
  refine thenE_n ?_
  refine W_seq ?_
  refine W_seq ?_
  refine W_region ?_
  refine WL_q rfl (ev_fieldAddr fo31_0 rfl) ?_
  refine WL_q rfl (ev_load one29 rfl (hB1.cell rfl)) ?_
  refine WL_q rfl (ev_len Try.underlying29 rfl) ?_
  refine WL_q rfl (ev_move rfl) ?_
  refine WL_nil ?_
  refine thenE_n ?_
  refine W_block ?_
  refine W_loopC (G := Nat × Option Addr × Nat) [(9, _), (10, _)] ((Subs.c rfl (Subs.c rfl Subs.n))) (fun ⟨i, a, c⟩ => [(3, .slice a (edN A.ends i).length c), (11, VI (i : Int))]) (fun ⟨i, a, c⟩ w' => Ext w1 w' ∧ i ≤ A.ends.length ∧ OwnH w1.heap.size w'.heap.size 0 0 w' 48 4 a (edN A.ends i).length c (quadCells (edN A.ends i))) (fun g => A.ends.length - g.1) (0, none, 0) ((Subs.c rfl (Subs.c (lkI rfl (by omega)) Subs.n))) (⟨Ext.refl _, ⟨Nat.zero_le _, OwnH.nil⟩⟩) ?_
  rintro ⟨i, a, c⟩ wL0 ⟨hRL0, hi', hO⟩
  have hzL0 := hRL0.size
  replace hE := hE.trans hRL0
  replace hA := hA.ext hRL0
  replace hB1 := hB1.ext hRL0
  refine W_seq ?_
  refine W_region ?_
  refine WL_q rfl (ev_lss rfl rfl) ?_
  refine WL_nil ?_
  refine thenE_n ?_
  refine W_seq ?_
  refine W_cond rfl (fun hg12 => ?_) (fun hg12 => ?_)
  · have hp12 := of_decide_eq_true hg12
    refine W_skip ?_
    refine thenE_n ?_
    refine W_seq ?_
    refine W_block ?_
    refine W_seq ?_
    refine W_region ?_
    refine WL_q rfl (ev_move rfl) ?_
    have hlt : i < A.ends.length := by omega
    have hl14 : i < A.ends.length := by omega
    have ht14 := totL_le hl14
    obtain ⟨a14, c14, hc14, hr14⟩ := hA.ends.row hl14
    refine WL_q rfl (ev_indexAddr Try.underlying29 sz55 rfl rfl (hA.ends.isSome (by omega)) (by omega) (by omega)) ?_
    refine WL_q rfl (ev_load one55 rfl (hc14)) ?_
    refine WL_q rfl (ev_assign rfl) ?_
    refine WL_q rfl (ev_assign rfl) ?_
    refine WL_nil ?_
    refine thenE_n ?_
    refine W_seq ?_
    refine W_region ?_
    refine WL_q rfl (ev_move rfl) ?_
    refine WL_q rfl (ev_len Try.underlying55 rfl) ?_
    refine WL_q rfl (ev_move rfl) ?_
    refine WL_nil ?_
    refine thenE_n ?_
    refine W_block ?_
    refine W_loopC (G := Nat × Option Addr × Nat) [(4, _), (9, _), (10, _), (11, _), (16, _), (17, _)] ((Subs.c rfl (Subs.c rfl (Subs.c rfl (Subs.c rfl (Subs.c rfl (Subs.c rfl Subs.n))))))) (fun ⟨k, a2, c2⟩ => [(3, .slice a2 (edN A.ends i ++ edR i A.ends[i] k).length c2), (18, VI (k : Int))]) (fun ⟨k, a2, c2⟩ w' => Rg w1.heap.size wL0.heap.size 0 0 wL0 w' ∧ k ≤ A.ends[i].length ∧ OwnH w1.heap.size w'.heap.size 0 0 w' 48 4 a2 (edN A.ends i ++ edR i A.ends[i] k).length c2 (quadCells (edN A.ends i ++ edR i A.ends[i] k))) (fun g => A.ends[i].length - g.1) (0, a, c) ((Subs.c (lkS rfl (by simp [edR])) (Subs.c (lkI rfl (by omega)) Subs.n))) (⟨Rg.refl, ⟨Nat.zero_le _, ownt_q hO (by simp [edR]) (by simp [edR])⟩⟩) ?_
    rintro ⟨k, a2, c2⟩ wL2 ⟨hRL2, hk', hO⟩
    have hzL2 := hRL2.size
    replace hA := hA.rg hRL2 (by omega)
    replace hB1 := hB1.rg hRL2 (by omega)
    replace hr14 := hr14.rg hRL2 (by omega)
    replace hE := hE.rg hRL2 (by omega)
    replace hRL0 := hRL0.rg hRL2 (by omega)
    refine W_seq ?_
    refine W_region ?_
    refine WL_q rfl (ev_lss rfl rfl) ?_
    refine WL_nil ?_
    refine thenE_n ?_
    refine W_seq ?_
    refine W_cond rfl (fun hg19 => ?_) (fun hg19 => ?_)
    · have hp19 := of_decide_eq_true hg19
      refine W_skip ?_
      refine thenE_n ?_
      refine W_seq ?_
      refine W_block ?_
      refine W_seq ?_
      refine W_region ?_
      refine WL_q rfl (ev_move rfl) ?_
      have hlt2 : k < A.ends[i].length := by omega
      have h6i := h6 _ (List.getElem_mem hlt)
      have hbd := edN_bd h6 h40 hlt (k := k)
      refine WL_q rfl (ev_indexAddr Try.underlying55 sz57 rfl rfl (hr14.isSome (by omega)) (by omega) (by omega)) ?_
      refine WL_q rfl (ev_loads st57 sz57 rfl (hr14.cells (i := k) (by omega)) rfl) ?_
      refine WL_m rfl (ev_alloc zr57) ?_
      rintro _ w7 ⟨rfl, hN7⟩
      have hz7 := hN7.size
      replace hE := hE.trans hN7.ext
      replace hRL0 := hRL0.trans hN7.ext
      replace hRL2 := hRL2.trans hN7.ext
      replace hA := hA.ext hN7.ext
      replace hB1 := hB1.ext hN7.ext
      replace hr14 := hr14.ext hN7.ext
      replace hO := hO.ext hN7.ext
      have hB7 : Blk w7 _ _ [_, _] := hN7.blk
      refine WL_q rfl (ev_assign rfl) ?_
      refine WL_s (ev_stores sz57 rfl rfl rfl (by simp [Value.oneCell']) hB7 (by simp)) ?_
      rintro _ w7_5 hS7_5
      have hz7_5 := hS7_5.size
      replace hE := hE.sto hS7_5 (by omega)
      replace hRL0 := hRL0.sto hS7_5 (by omega)
      replace hRL2 := hRL2.sto hS7_5 (by omega)
      replace hA := hA.sto hS7_5 (by omega)
      replace hB1 := hB1.sto hS7_5 (by omega)
      replace hr14 := hr14.sto hS7_5 (by omega)
      replace hO := hO.sto hS7_5 (by omega)
      replace hB7 : Blk w7_5 _ _ [_, _] := hS7_5.blk
      refine WL_nil ?_
      refine thenE_n ?_
      refine W_seq ?_
      refine W_region ?_
      refine WL_q rfl (ev_move rfl) ?_
      refine WL_q rfl (ev_fieldAddr fo57_0 rfl) ?_
      refine WL_q rfl (ev_load one3 rfl (hB7.cell rfl)) ?_
      refine WL_q rfl (ev_lss rfl rfl) ?_
      refine WL_q rfl (ev_move rfl) ?_
      refine WL_splitv (t := 27) rfl (fun hg26 => ?_) (fun hg26 => ?_)
      · have hp26 := of_decide_eq_true hg26
        refine WL_no rfl rfl hg26 rfl ?_
        refine WL_no rfl rfl hg26 rfl ?_
        refine WL_no rfl rfl hg26 rfl ?_
        refine WL_no rfl rfl hg26 rfl ?_
        refine WL_no rfl rfl hg26 rfl ?_
        refine WL_nou rfl rfl rfl ?_
        refine WL_nou rfl rfl rfl ?_
        refine WL_nou rfl rfl rfl ?_
        refine WL_nou rfl rfl rfl ?_
        refine WL_no rfl rfl hg26 rfl ?_
        refine WL_q rfl (ev_pick_t rfl hg26 rfl) ?_
        refine WL_nil ?_
        refine thenE_n ?_
        refine W_cond_t rfl ?_
        refine W_region ?_
        refine WL_q rfl (ev_move rfl) ?_
        refine WL_q rfl (ev_move rfl) ?_
        refine WL_q rfl (ev_move rfl) ?_
        refine WL_q rfl (ev_fieldAddr fo57_0 rfl) ?_
        refine WL_q rfl (ev_load one3 rfl (hB7.cell rfl)) ?_
        refine WL_q rfl (ev_fieldAddr fo57_1 rfl) ?_
        refine WL_q rfl (ev_load one3 rfl (hB7.cell rfl)) ?_
        refine WL_q rfl (ev_build4 sn48_4 rfl rfl rfl rfl rfl rfl rfl rfl) ?_
        refine WL_m rfl (ev_lit1 Try.underlying45 el48 (by decide) (by decide) rfl rfl) ?_
        rintro _ w47 ⟨rfl, hN47⟩
        have hz47 := hN47.size
        replace hE := hE.trans hN47.ext
        replace hRL0 := hRL0.trans hN47.ext
        replace hRL2 := hRL2.trans hN47.ext
        replace hA := hA.ext hN47.ext
        replace hB1 := hB1.ext hN47.ext
        replace hr14 := hr14.ext hN47.ext
        replace hO := hO.ext hN47.ext
        replace hB7 := hB7.ext hN47.ext
        have hB47 := hN47.blk
        refine WL_m rfl (ev_appendT Try.underlying45 el48 rfl (by decide) rfl rfl hO (SAt.of_blk (cs := [_, _, _, _]) (ds := []) hB47) rfl (by simp [Value.oneCell']) (by omega) (by unfold maxLen; omega) (by omega)) ?_
        rintro _ w48 ⟨a48, c48, rfl, hO48, hK48, hQ48⟩
        have hz48 := hK48.size
        replace hE := hE.rg hK48 (by omega)
        replace hRL0 := hRL0.rg hK48 (by omega)
        replace hRL2 := hRL2.rg hK48 (by omega)
        replace hA := hA.rg hK48 (by omega)
        replace hB1 := hB1.rg hK48 (by omega)
        replace hr14 := hr14.rg hK48 (by omega)
        replace hB7 := hB7.rg hK48 (by omega)
        replace hB47 := hB47.rg hK48 (by omega)
        replace hO := hO48
        replace hO := ownt_quad (x := ((i : Int), (k : Int), A.ends[i][k].1, A.ends[i][k].2)) hO
        refine WL_q rfl (ev_assign rfl) ?_
        refine WL_nil ?_
        refine blockE_n ?_
        refine thenE_n ?_
        refine W_region ?_
        refine WL_q rfl (ev_add rfl rfl (by omega)) ?_
        refine WL_q rfl (ev_move rfl) ?_
        refine WL_nil ?_
        refine thenE_n ?_
        have hfe := edR_yes (v := i) hlt2 (.inl hp26)
        have hfe2 : (edN A.ends i ++ edR i A.ends[i] k) ++ [((i : Int), (k : Int), A.ends[i][k].1, A.ends[i][k].2)] = edN A.ends i ++ edR i A.ends[i] (k + 1) := by rw [hfe, List.append_assoc]
        exact ⟨(k + 1, a48, c48), (Subs.c rfl (Subs.c rfl (Subs.c rfl (Subs.c rfl (Subs.c rfl (Subs.c rfl Subs.n)))))), (Subs.c (lkS rfl (by rw [← hfe2]; simp; omega)) (Subs.c (lkI rfl (by omega)) Subs.n)), ⟨hRL2, ⟨by omega, (ownt_q hO hfe2 (by rw [← hfe2]; simp; omega)).up (Nat.le_refl _) (by omega)⟩⟩, by first | omega | (dsimp only; omega)⟩
      · have hp26 := of_decide_eq_false hg26
        refine WL_qg rfl rfl hg26 rfl (ev_move rfl) ?_
        refine WL_qg rfl rfl hg26 rfl (ev_fieldAddr fo57_0 rfl) ?_
        refine WL_qg rfl rfl hg26 rfl (ev_load one3 rfl (hB7.cell rfl)) ?_
        refine WL_qg rfl rfl hg26 rfl (ev_eql rfl rfl) ?_
        refine WL_qg rfl rfl hg26 rfl (ev_move rfl) ?_
        refine WL_splitv (t := 32) rfl (fun hg31 => ?_) (fun hg31 => ?_)
        · have hp31 := of_decide_eq_true hg31
          refine WL_qg rfl rfl hg31 rfl (ev_move rfl) ?_
          refine WL_qg rfl rfl hg31 rfl (ev_fieldAddr fo57_1 rfl) ?_
          refine WL_qg rfl rfl hg31 rfl (ev_load one3 rfl (hB7.cell rfl)) ?_
          refine WL_qg rfl rfl hg31 rfl (ev_leq rfl rfl) ?_
          refine WL_qg rfl rfl hg26 rfl (ev_pick_t rfl hg31 rfl) ?_
          refine WL_q rfl (ev_pick_f rfl hg26 rfl) ?_
          refine WL_nil ?_
          refine thenE_n ?_
          refine W_cond rfl (fun hg36 => ?_) (fun hg36 => ?_)
          · have hp36 := of_decide_eq_true hg36
            refine W_region ?_
            refine WL_q rfl (ev_move rfl) ?_
            refine WL_q rfl (ev_move rfl) ?_
            refine WL_q rfl (ev_move rfl) ?_
            refine WL_q rfl (ev_fieldAddr fo57_0 rfl) ?_
            refine WL_q rfl (ev_load one3 rfl (hB7.cell rfl)) ?_
            refine WL_q rfl (ev_fieldAddr fo57_1 rfl) ?_
            refine WL_q rfl (ev_load one3 rfl (hB7.cell rfl)) ?_
            refine WL_q rfl (ev_build4 sn48_4 rfl rfl rfl rfl rfl rfl rfl rfl) ?_
            refine WL_m rfl (ev_lit1 Try.underlying45 el48 (by decide) (by decide) rfl rfl) ?_
            rintro _ w47 ⟨rfl, hN47⟩
            have hz47 := hN47.size
            replace hE := hE.trans hN47.ext
            replace hRL0 := hRL0.trans hN47.ext
            replace hRL2 := hRL2.trans hN47.ext
            replace hA := hA.ext hN47.ext
            replace hB1 := hB1.ext hN47.ext
            replace hr14 := hr14.ext hN47.ext
            replace hO := hO.ext hN47.ext
            replace hB7 := hB7.ext hN47.ext
            have hB47 := hN47.blk
            refine WL_m rfl (ev_appendT Try.underlying45 el48 rfl (by decide) rfl rfl hO (SAt.of_blk (cs := [_, _, _, _]) (ds := []) hB47) rfl (by simp [Value.oneCell']) (by omega) (by unfold maxLen; omega) (by omega)) ?_
            rintro _ w48 ⟨a48, c48, rfl, hO48, hK48, hQ48⟩
            have hz48 := hK48.size
            replace hE := hE.rg hK48 (by omega)
            replace hRL0 := hRL0.rg hK48 (by omega)
            replace hRL2 := hRL2.rg hK48 (by omega)
            replace hA := hA.rg hK48 (by omega)
            replace hB1 := hB1.rg hK48 (by omega)
            replace hr14 := hr14.rg hK48 (by omega)
            replace hB7 := hB7.rg hK48 (by omega)
            replace hB47 := hB47.rg hK48 (by omega)
            replace hO := hO48
            replace hO := ownt_quad (x := ((i : Int), (k : Int), A.ends[i][k].1, A.ends[i][k].2)) hO
            refine WL_q rfl (ev_assign rfl) ?_
            refine WL_nil ?_
            refine blockE_n ?_
            refine thenE_n ?_
            refine W_region ?_
            refine WL_q rfl (ev_add rfl rfl (by omega)) ?_
            refine WL_q rfl (ev_move rfl) ?_
            refine WL_nil ?_
            refine thenE_n ?_
            have hfe := edR_yes (v := i) hlt2 (.inr ⟨hp31, hp36⟩)
            have hfe2 : (edN A.ends i ++ edR i A.ends[i] k) ++ [((i : Int), (k : Int), A.ends[i][k].1, A.ends[i][k].2)] = edN A.ends i ++ edR i A.ends[i] (k + 1) := by rw [hfe, List.append_assoc]
            exact ⟨(k + 1, a48, c48), (Subs.c rfl (Subs.c rfl (Subs.c rfl (Subs.c rfl (Subs.c rfl (Subs.c rfl Subs.n)))))), (Subs.c (lkS rfl (by rw [← hfe2]; simp; omega)) (Subs.c (lkI rfl (by omega)) Subs.n)), ⟨hRL2, ⟨by omega, (ownt_q hO hfe2 (by rw [← hfe2]; simp; omega)).up (Nat.le_refl _) (by omega)⟩⟩, by first | omega | (dsimp only; omega)⟩
          · have hp36 := of_decide_eq_false hg36
            refine W_skip ?_
            refine blockE_n ?_
            refine thenE_n ?_
            refine W_region ?_
            refine WL_q rfl (ev_add rfl rfl (by omega)) ?_
            refine WL_q rfl (ev_move rfl) ?_
            refine WL_nil ?_
            refine thenE_n ?_
            have hfe := edR_no (v := i) hlt2 (fun h => by rcases h with h | h; exact hp26 h; exact hp36 h.2)
            exact ⟨(k + 1, a2, c2), (Subs.c rfl (Subs.c rfl (Subs.c rfl (Subs.c rfl (Subs.c rfl (Subs.c rfl Subs.n)))))), (Subs.c (lkS rfl (by rw [hfe])) (Subs.c (lkI rfl (by omega)) Subs.n)), ⟨hRL2, ⟨by omega, (ownt_q hO (by rw [hfe]) (by rw [hfe])).up (Nat.le_refl _) (by omega)⟩⟩, by first | omega | (dsimp only; omega)⟩
        · have hp31 := of_decide_eq_false hg31
          refine WL_no rfl rfl hg31 rfl ?_
          refine WL_no rfl rfl hg31 rfl ?_
          refine WL_no rfl rfl hg31 rfl ?_
          refine WL_no rfl rfl hg31 rfl ?_
          refine WL_qg rfl rfl hg26 rfl (ev_pick_f rfl hg31 rfl) ?_
          refine WL_q rfl (ev_pick_f rfl hg26 rfl) ?_
          refine WL_nil ?_
          refine thenE_n ?_
          refine W_cond_f rfl ?_
          refine W_skip ?_
          refine blockE_n ?_
          refine thenE_n ?_
          refine W_region ?_
          refine WL_q rfl (ev_add rfl rfl (by omega)) ?_
          refine WL_q rfl (ev_move rfl) ?_
          refine WL_nil ?_
          refine thenE_n ?_
          have hfe := edR_no (v := i) hlt2 (fun h => by rcases h with h | h; exact hp26 h; exact hp31 h.1)
          exact ⟨(k + 1, a2, c2), (Subs.c rfl (Subs.c rfl (Subs.c rfl (Subs.c rfl (Subs.c rfl (Subs.c rfl Subs.n)))))), (Subs.c (lkS rfl (by rw [hfe])) (Subs.c (lkI rfl (by omega)) Subs.n)), ⟨hRL2, ⟨by omega, (ownt_q hO (by rw [hfe]) (by rw [hfe])).up (Nat.le_refl _) (by omega)⟩⟩, by first | omega | (dsimp only; omega)⟩
    · have hp19 := of_decide_eq_false hg19
      refine W_exit ?_
      refine thenE_x ?_
      refine thenE_x ?_
      refine blockE_hit ?_
      refine blockE_n ?_
      refine thenE_n ?_
      refine W_region ?_
      refine WL_q rfl (ev_add rfl rfl (by omega)) ?_
      refine WL_q rfl (ev_move rfl) ?_
      refine WL_nil ?_
      refine thenE_n ?_
      have hk9 : k = A.ends[i].length := by omega
      subst hk9
      exact ⟨(i + 1, a2, c2), (Subs.c rfl (Subs.c rfl Subs.n)), (Subs.c (lkS rfl (by rw [edN_succ hlt])) (Subs.c (lkI rfl (by omega)) Subs.n)), ⟨hRL0, ⟨by omega, (ownt_q hO (edN_succ hlt).symm (by rw [edN_succ hlt])).up (Nat.le_refl _) (by omega)⟩⟩, by first | omega | (dsimp only; omega)⟩
  · have hp12 := of_decide_eq_false hg12
    refine W_exit ?_
    refine thenE_x ?_
    refine thenE_x ?_
    refine blockE_hit ?_
    refine thenE_n ?_
    refine W_seq ?_
    refine W_region ?_
    refine WL_q rfl (ev_move rfl) ?_
    refine WL_q rfl (ev_assign rfl) ?_
    refine WL_nil ?_
    refine thenE_n ?_
    refine W_ret ?_
    refine ret1 rfl rfl ?_
    have hi9 : i = A.ends.length := by omega
    subst hi9
    exact ⟨_, _, rfl, hO.1.mono (by omega), hE⟩

end Go.Proofs.Ytnngpblegbjfdaa
