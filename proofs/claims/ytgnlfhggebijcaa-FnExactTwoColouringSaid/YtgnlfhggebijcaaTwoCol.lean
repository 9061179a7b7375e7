/- Contracts of the edges and of TwoColouring, of the program and of the reference; the walk of its law. -/
import Derived.Test.YtgnlfhggebijcaaParts
import Derived.Test.YtgnlfhggebijcaaEdges
import Derived.Test.YtgnlfhggebijcaaDrawV
namespace Go.Proofs.Ytgnlfhggebijcaa
open Go Go.RowKit

theorem ownt_quad {lo hi p q n c : Nat} {w : World} {E : TypeId} {a : Option Addr} {qs : List Quad} {x : Quad} (h : OwnH lo hi p q w E 4 a n c (quadCells qs ++ qCells x)) : OwnH lo hi p q w E 4 a n c (quadCells (qs ++ [x])) := by
  rw [quadCells_app]; simpa [quadCells] using h
theorem ownt_q {lo hi p q n n' c : Nat} {w : World} {E : TypeId} {a : Option Addr} {qs rs : List Quad} (h : OwnH lo hi p q w E 4 a n c (quadCells qs)) (e : qs = rs) (hn : n = n') : OwnH lo hi p q w E 4 a n' c (quadCells rs) := by subst e hn; exact h
theorem NOk.six {n : Net} (h : NOk n) : ∀ r ∈ n.ends, r.length ≤ 6 := by
  intro r hr
  obtain ⟨v, hv, rfl⟩ := List.mem_iff_getElem.1 hr
  have := (h.rows v hv).1; omega
theorem edN_bd {ends : Ends} (h6 : ∀ r ∈ ends, r.length ≤ 6) (h40 : ends.length ≤ 40) {i k : Nat} (hi : i < ends.length) : (edN ends i ++ edR i ends[i] k).length ≤ 240 + k := by
  have h1 := edN_len h6 i (by omega)
  have h2 := edR_len i ends[i] k
  rw [List.length_append]; omega
theorem edL_bd {ends : Ends} (h6 : ∀ r ∈ ends, r.length ≤ 6) (h40 : ends.length ≤ 40) : (edL ends).length ≤ 240 := by
  have h1 := edN_len h6 ends.length (Nat.le_refl _)
  unfold edL; omega
/-- The first i elements, and zeros. -/
def fillL (L : List Int) (i : Nat) : List Int := L.take i ++ List.replicate (L.length - i) 0
theorem fillL_len {L : List Int} {i : Nat} (h : i ≤ L.length) : (fillL L i).length = L.length := by simp [fillL]; omega
theorem fillL_zero (L : List Int) : fillL L 0 = List.replicate L.length 0 := by simp [fillL]
theorem fillL_full {L : List Int} {i : Nat} (h : L.length ≤ i) : fillL L i = L := by simp [fillL, List.take_of_length_le h, Nat.sub_eq_zero_of_le h]
theorem fillL_put {L : List Int} {i : Nat} {x : Int} (h : i < L.length) (hx : x = L[i]) : (fillL L i).set i x = fillL L (i + 1) := by
  subst hx
  unfold fillL
  rw [List.set_append_right _ _ (by simp; omega), show i - (L.take i).length = 0 by simp; omega, show L.length - i = (L.length - (i + 1)) + 1 by omega, List.replicate_succ, List.set_cons_zero, ← List.take_append_getElem h, List.append_assoc]
  rfl
theorem prt_bfs {ends : Ends} (hk : EndsOk ends) (hs : SymE ends) (h40 : ends.length ≤ 40) {i : Nat} (hi : i < (prt ends).length) : (0 ≤ (prt ends)[i] ∧ (prt ends)[i].toNat < ends.length) ∧ (bfs ends (prt ends)[i]).length = ends.length ∧ ∀ h : i < (bfs ends (prt ends)[i]).length, 0 ≤ (bfs ends (prt ends)[i])[i] := by
  have hl := prt_len ends
  obtain ⟨h1, h2, h3⟩ := prt_rng hk hs h40 (show i < ends.length by omega) (h := hi)
  refine ⟨⟨h1, h2⟩, bfs_len hk h1 h2, fun h => ?_⟩
  rw [getD_eq h] at h3; exact h3
theorem not_colOk {ends : Ends} {C : List Int} (hc : ColOk ends C) {q : Quad} (hq : q ∈ edL ends) (h1 : q.1.toNat < C.length) (h2 : q.2.2.1.toNat < C.length) (h : C[q.1.toNat] = C[q.2.2.1.toNat]) : False := by
  have := colOk_bad hc q hq
  rw [getD_eq h1, getD_eq h2] at this
  exact this h
theorem edL_at {ends : Ends} (hk : EndsOk ends) {j : Nat} (h : j < (edL ends).length) : (0 ≤ (edL ends)[j].1 ∧ (edL ends)[j].1.toNat < ends.length) ∧ 0 ≤ (edL ends)[j].2.2.1 ∧ (edL ends)[j].2.2.1.toNat < ends.length := by
  obtain ⟨v, hv, i, hi, _, e⟩ := edL_mem.1 (List.getElem_mem h)
  rw [e]
  have := hk.at hv hi
  exact ⟨⟨by simp, by simpa using hv⟩, this⟩
def ColE (C : List Int) (q : Quad) : Prop := C.getD q.1.toNat 0 ≠ C.getD q.2.2.1.toNat 0
theorem colE_at {C : List Int} {q : Quad} {h1 : q.1.toNat < C.length} {h2 : q.2.2.1.toNat < C.length} (h : ¬ C[q.1.toNat] = C[q.2.2.1.toNat]) : ColE C q := by unfold ColE; rw [getD_eq h1, getD_eq h2]; exact h
theorem colOk_yes {n : Net} (h : NOk n) {C : List Int} {i : Nat} (hc : ∀ j (_h : j < i) (h2 : j < (edL n.ends).length), ColE C (edL n.ends)[j]) (hi : (edL n.ends).length ≤ i) : ColOk n.ends C :=
  colOk_edges h.endsOk (fun _ hv _ hi => h.endOk hv hi) fun q hq => by
    obtain ⟨j, hj, rfl⟩ := List.mem_iff_getElem.1 hq
    exact hc j (by omega) hj
def ColR (ends : Ends) (C : List Int) (v : Nat) : Prop := ∀ k (_h : k < (near ends (v : Int)).length), C.getD v 0 ≠ C.getD ((near ends (v : Int)).getD k 0).toNat 0
theorem colR_all {ends : Ends} {C : List Int} (h : ∀ v (_h : v < ends.length), ColR ends C v) : ColOk ends C := by
  intro v hv e he
  obtain ⟨k, hk, rfl⟩ := List.mem_iff_getElem.1 he
  have hg : near ends (v : Int) = (ends[v]).map Prod.fst := by have := near_get (ends := ends) (w := (v : Int)) (by simpa using hv); simpa using this
  have := h v hv k (by rw [hg]; simpa using hk)
  rw [getD_eq (show k < (near ends (v : Int)).length by rw [hg]; simpa using hk)] at this
  simpa [hg] using this
theorem colR_no {ends : Ends} {C : List Int} (hc : ColOk ends C) {v k : Nat} (hv : v < ends.length) (h : k < (near ends (v : Int)).length) {h1 : v < C.length} {h2 : (near ends (v : Int))[k].toNat < C.length} (e : C[v] = C[(near ends (v : Int))[k].toNat]) : False := by
  have hg : near ends (v : Int) = (ends[v]).map Prod.fst := by have := near_get (ends := ends) (w := (v : Int)) (by simpa using hv); simpa using this
  have hk : k < ends[v].length := by rw [hg] at h; simpa using h
  have h3 := hc v hv _ (List.getElem_mem hk)
  have e2 : (near ends (v : Int))[k] = ends[v][k].1 := by simp [hg]
  rw [getD_eq h1, ← e2, getD_eq h2] at h3
  exact h3 e
theorem colR_at {ends : Ends} {C : List Int} {v k : Nat} (h : k < (near ends (v : Int)).length) {h1 : v < C.length} {h2 : (near ends (v : Int))[k].toNat < C.length} (e : ¬ C[v] = C[(near ends (v : Int))[k].toNat]) : C.getD v 0 ≠ C.getD ((near ends (v : Int)).getD k 0).toNat 0 := by rw [getD_eq h1, getD_eq h, getD_eq h2]; exact e

theorem two_yes {V P : Prop} {x ys : List Int} {q : Bool} (h : V) (k : RV [] (opt P x) ys q) : RV [] (opt (V ∧ P) x) ys q := by
  have e : opt (V ∧ P) x = opt P x := by
    unfold opt
    by_cases hp : P
    · rw [if_pos hp, if_pos ⟨h, hp⟩]
    · rw [if_neg hp, if_neg fun h9 => hp h9.2]
  rw [e]; exact k

set_option maxHeartbeats 4000000 in
set_option maxRecDepth 100000 in
theorem edges_spec {loA hiA : Nat} (nA : NA) (A : Net) (w : World) (hA : IsNet loA hiA w nA A) (hhiA : hiA ≤ w.heap.size) (hnA : totN A ≤ 1048576) (h6 : ∀ r ∈ A.ends, r.length ≤ 6) (h40 : A.ends.length ≤ 40) :
    Fn Try.prog 78 #[netV nA A] w (fun o9 w' => ∃ a' c', o9 = .slice a' (edL A.ends).length c' ∧ Own w.heap.size w' 74 4 a' (edL A.ends).length c' (quadCells (edL A.ends)) ∧ Ext w w') := by
  have hqA := totL_len A.ends
  have hmA : totL A.ends + A.ids.length + A.inputs.length ≤ 1048576 := hnA
  have hE := Ext.refl w
  refine Fn_of Try.func78 rfl rfl (by kernel_rfl) rfl ?_
  refine W_seq ?_
  refine W_region ?_
  refine WL_m rfl (ev_box rfl) ?_
  rintro _ w1 ⟨rfl, hN1⟩
  have hz1 := hN1.size
  replace hE := hE.trans hN1.ext
  replace hA := hA.ext hN1.ext
  have hB1 : Blk w1 _ _ [_, _, _] := hN1.blk
  refine WL_q rfl (ev_assign rfl) ?_
  refine WL_nil ?_
  refine thenE_n ?_
  refine W_seq ?_
  refine W_region ?_
  refine WL_q rfl (ev_assign rfl) ?_
  refine WL_nil ?_
  refine thenE_n ?_
  refine W_seq ?_
  refine W_seq ?_
  refine W_region ?_
  refine WL_q rfl (ev_fieldAddr fo31_0 rfl) ?_
  refine WL_q rfl (ev_load one29 rfl (hB1.cell rfl)) ?_
  refine WL_q rfl (ev_len Try.underlying29 rfl) ?_
  refine WL_q rfl (ev_move rfl) ?_
  refine WL_nil ?_
  refine thenE_n ?_
  refine W_block ?_
  refine W_loopC (G := Nat × Option Addr × Nat) [(9, _), (10, _)] ((Subs.c rfl (Subs.c rfl Subs.n))) (fun ⟨i, a, c⟩ => [(3, .slice a (edN A.ends i).length c), (11, VI (i : Int))]) (fun ⟨i, a, c⟩ w' => Ext w1 w' ∧ i ≤ A.ends.length ∧ OwnH w1.heap.size w'.heap.size 0 0 w' 74 4 a (edN A.ends i).length c (quadCells (edN A.ends i))) (fun g => A.ends.length - g.1) (0, none, 0) ((Subs.c rfl (Subs.c (lkI rfl (by omega)) Subs.n))) (⟨Ext.refl _, ⟨Nat.zero_le _, OwnH.nil⟩⟩) ?_
  rintro ⟨i, a, c⟩ wL0 ⟨hRL0, hi', hO⟩
  have hzL0 := hRL0.size
  replace hE := hE.trans hRL0
  replace hA := hA.ext hRL0
  replace hB1 := hB1.ext hRL0
  refine W_seq ?_
  refine W_region ?_
  refine WL_q rfl (ev_lss rfl rfl) ?_
  refine WL_nil ?_
  refine thenE_n ?_
  refine W_seq ?_
  refine W_cond rfl (fun hg12 => ?_) (fun hg12 => ?_)
  · have hp12 := of_decide_eq_true hg12
    refine W_skip ?_
    refine thenE_n ?_
    refine W_seq ?_
    refine W_block ?_
    refine W_seq ?_
    refine W_region ?_
    refine WL_q rfl (ev_move rfl) ?_
    have hlt : i < A.ends.length := by omega
    have hl14 : i < A.ends.length := by omega
    have ht14 := totL_le hl14
    obtain ⟨a14, c14, hc14, hr14⟩ := hA.ends.row hl14
    refine WL_q rfl (ev_indexAddr Try.underlying29 sz65 rfl rfl (hA.ends.isSome (by omega)) (by omega) (by omega)) ?_
    refine WL_q rfl (ev_load one65 rfl (hc14)) ?_
    refine WL_q rfl (ev_assign rfl) ?_
    refine WL_q rfl (ev_assign rfl) ?_
    refine WL_nil ?_
    refine thenE_n ?_
    refine W_seq ?_
    refine W_region ?_
    refine WL_q rfl (ev_move rfl) ?_
    refine WL_q rfl (ev_len Try.underlying65 rfl) ?_
    refine WL_q rfl (ev_move rfl) ?_
    refine WL_nil ?_
    refine thenE_n ?_
    refine W_block ?_
    refine W_loopC (G := Nat × Option Addr × Nat) [(4, _), (9, _), (10, _), (11, _), (16, _), (17, _)] ((Subs.c rfl (Subs.c rfl (Subs.c rfl (Subs.c rfl (Subs.c rfl (Subs.c rfl Subs.n))))))) (fun ⟨k, a2, c2⟩ => [(3, .slice a2 (edN A.ends i ++ edR i A.ends[i] k).length c2), (18, VI (k : Int))]) (fun ⟨k, a2, c2⟩ w' => Rg w1.heap.size wL0.heap.size 0 0 wL0 w' ∧ k ≤ A.ends[i].length ∧ OwnH w1.heap.size w'.heap.size 0 0 w' 74 4 a2 (edN A.ends i ++ edR i A.ends[i] k).length c2 (quadCells (edN A.ends i ++ edR i A.ends[i] k))) (fun g => A.ends[i].length - g.1) (0, a, c) ((Subs.c (lkS rfl (by simp [edR])) (Subs.c (lkI rfl (by omega)) Subs.n))) (⟨Rg.refl, ⟨Nat.zero_le _, ownt_q hO (by simp [edR]) (by simp [edR])⟩⟩) ?_
    rintro ⟨k, a2, c2⟩ wL2 ⟨hRL2, hk', hO⟩
    have hzL2 := hRL2.size
    replace hA := hA.rg hRL2 (by omega)
    replace hB1 := hB1.rg hRL2 (by omega)
    replace hr14 := hr14.rg hRL2 (by omega)
    replace hE := hE.rg hRL2 (by omega)
    replace hRL0 := hRL0.rg hRL2 (by omega)
    refine W_seq ?_
    refine W_region ?_
    refine WL_q rfl (ev_lss rfl rfl) ?_
    refine WL_nil ?_
    refine thenE_n ?_
    refine W_seq ?_
    refine W_cond rfl (fun hg19 => ?_) (fun hg19 => ?_)
    · have hp19 := of_decide_eq_true hg19
      refine W_skip ?_
      refine thenE_n ?_
      refine W_seq ?_
      refine W_block ?_
      refine W_seq ?_
      refine W_region ?_
      refine WL_q rfl (ev_move rfl) ?_
      have hlt2 : k < A.ends[i].length := by omega
      have h6i := h6 _ (List.getElem_mem hlt)
      have hbd := edN_bd h6 h40 hlt (k := k)
      refine WL_q rfl (ev_indexAddr Try.underlying65 sz68 rfl rfl (hr14.isSome (by omega)) (by omega) (by omega)) ?_
      refine WL_q rfl (ev_loads st68 sz68 rfl (hr14.cells (i := k) (by omega)) rfl) ?_
      refine WL_m rfl (ev_alloc zr68) ?_
      rintro _ w7 ⟨rfl, hN7⟩
      have hz7 := hN7.size
      replace hE := hE.trans hN7.ext
      replace hRL0 := hRL0.trans hN7.ext
      replace hRL2 := hRL2.trans hN7.ext
      replace hA := hA.ext hN7.ext
      replace hB1 := hB1.ext hN7.ext
      replace hr14 := hr14.ext hN7.ext
      replace hO := hO.ext hN7.ext
      have hB7 : Blk w7 _ _ [_, _] := hN7.blk
      refine WL_q rfl (ev_assign rfl) ?_
      refine WL_s (ev_stores sz68 rfl rfl rfl (by simp [Value.oneCell']) hB7 (by simp)) ?_
      rintro _ w7_5 hS7_5
      have hz7_5 := hS7_5.size
      replace hE := hE.sto hS7_5 (by omega)
      replace hRL0 := hRL0.sto hS7_5 (by omega)
      replace hRL2 := hRL2.sto hS7_5 (by omega)
      replace hA := hA.sto hS7_5 (by omega)
      replace hB1 := hB1.sto hS7_5 (by omega)
      replace hr14 := hr14.sto hS7_5 (by omega)
      replace hO := hO.sto hS7_5 (by omega)
      replace hB7 : Blk w7_5 _ _ [_, _] := hS7_5.blk
      refine WL_nil ?_
      refine thenE_n ?_
      refine W_seq ?_
      refine W_region ?_
      refine WL_q rfl (ev_move rfl) ?_
      refine WL_q rfl (ev_fieldAddr fo68_0 rfl) ?_
      refine WL_q rfl (ev_load one3 rfl (hB7.cell rfl)) ?_
      refine WL_q rfl (ev_lss rfl rfl) ?_
      refine WL_q rfl (ev_move rfl) ?_
      refine WL_splitv (t := 27) rfl (fun hg26 => ?_) (fun hg26 => ?_)
      · have hp26 := of_decide_eq_true hg26
        refine WL_no rfl rfl hg26 rfl ?_
        refine WL_no rfl rfl hg26 rfl ?_
        refine WL_no rfl rfl hg26 rfl ?_
        refine WL_no rfl rfl hg26 rfl ?_
        refine WL_no rfl rfl hg26 rfl ?_
        refine WL_nou rfl rfl rfl ?_
        refine WL_nou rfl rfl rfl ?_
        refine WL_nou rfl rfl rfl ?_
        refine WL_nou rfl rfl rfl ?_
        refine WL_no rfl rfl hg26 rfl ?_
        refine WL_q rfl (ev_pick_t rfl hg26 rfl) ?_
        refine WL_nil ?_
        refine thenE_n ?_
        refine W_cond_t rfl ?_
        refine W_region ?_
        refine WL_q rfl (ev_move rfl) ?_
        refine WL_q rfl (ev_move rfl) ?_
        refine WL_q rfl (ev_move rfl) ?_
        refine WL_q rfl (ev_fieldAddr fo68_0 rfl) ?_
        refine WL_q rfl (ev_load one3 rfl (hB7.cell rfl)) ?_
        refine WL_q rfl (ev_fieldAddr fo68_1 rfl) ?_
        refine WL_q rfl (ev_load one3 rfl (hB7.cell rfl)) ?_
        refine WL_q rfl (ev_build4 sn74_4 rfl rfl rfl rfl rfl rfl rfl rfl) ?_
        refine WL_m rfl (ev_lit1 Try.underlying71 el74 (by decide) (by decide) rfl rfl) ?_
        rintro _ w47 ⟨rfl, hN47⟩
        have hz47 := hN47.size
        replace hE := hE.trans hN47.ext
        replace hRL0 := hRL0.trans hN47.ext
        replace hRL2 := hRL2.trans hN47.ext
        replace hA := hA.ext hN47.ext
        replace hB1 := hB1.ext hN47.ext
        replace hr14 := hr14.ext hN47.ext
        replace hO := hO.ext hN47.ext
        replace hB7 := hB7.ext hN47.ext
        have hB47 := hN47.blk
        refine WL_m rfl (ev_appendT Try.underlying71 el74 rfl (by decide) rfl rfl hO (SAt.of_blk (cs := [_, _, _, _]) (ds := []) hB47) rfl (by simp [Value.oneCell']) (by omega) (by unfold maxLen; omega) (by omega)) ?_
        rintro _ w48 ⟨a48, c48, rfl, hO48, hK48, hQ48⟩
        have hz48 := hK48.size
        replace hE := hE.rg hK48 (by omega)
        replace hRL0 := hRL0.rg hK48 (by omega)
        replace hRL2 := hRL2.rg hK48 (by omega)
        replace hA := hA.rg hK48 (by omega)
        replace hB1 := hB1.rg hK48 (by omega)
        replace hr14 := hr14.rg hK48 (by omega)
        replace hB7 := hB7.rg hK48 (by omega)
        replace hB47 := hB47.rg hK48 (by omega)
        replace hO := hO48
        replace hO := ownt_quad (x := ((i : Int), (k : Int), A.ends[i][k].1, A.ends[i][k].2)) hO
        refine WL_q rfl (ev_assign rfl) ?_
        refine WL_nil ?_
        refine blockE_n ?_
        refine thenE_n ?_
        refine W_region ?_
        refine WL_q rfl (ev_add rfl rfl (by omega)) ?_
        refine WL_q rfl (ev_move rfl) ?_
        refine WL_nil ?_
        refine thenE_n ?_
        have hfe := edR_yes (v := i) hlt2 (.inl hp26)
        have hfe2 : (edN A.ends i ++ edR i A.ends[i] k) ++ [((i : Int), (k : Int), A.ends[i][k].1, A.ends[i][k].2)] = edN A.ends i ++ edR i A.ends[i] (k + 1) := by rw [hfe, List.append_assoc]
        exact ⟨(k + 1, a48, c48), (Subs.c rfl (Subs.c rfl (Subs.c rfl (Subs.c rfl (Subs.c rfl (Subs.c rfl Subs.n)))))), (Subs.c (lkS rfl (by rw [← hfe2]; simp; omega)) (Subs.c (lkI rfl (by omega)) Subs.n)), ⟨hRL2, ⟨by omega, (ownt_q hO hfe2 (by rw [← hfe2]; simp; omega)).up (Nat.le_refl _) (by omega)⟩⟩, by first | omega | (dsimp only; omega)⟩
      · have hp26 := of_decide_eq_false hg26
        refine WL_qg rfl rfl hg26 rfl (ev_move rfl) ?_
        refine WL_qg rfl rfl hg26 rfl (ev_fieldAddr fo68_0 rfl) ?_
        refine WL_qg rfl rfl hg26 rfl (ev_load one3 rfl (hB7.cell rfl)) ?_
        refine WL_qg rfl rfl hg26 rfl (ev_eql rfl rfl) ?_
        refine WL_qg rfl rfl hg26 rfl (ev_move rfl) ?_
        refine WL_splitv (t := 32) rfl (fun hg31 => ?_) (fun hg31 => ?_)
        · have hp31 := of_decide_eq_true hg31
          refine WL_qg rfl rfl hg31 rfl (ev_move rfl) ?_
          refine WL_qg rfl rfl hg31 rfl (ev_fieldAddr fo68_1 rfl) ?_
          refine WL_qg rfl rfl hg31 rfl (ev_load one3 rfl (hB7.cell rfl)) ?_
          refine WL_qg rfl rfl hg31 rfl (ev_leq rfl rfl) ?_
          refine WL_qg rfl rfl hg26 rfl (ev_pick_t rfl hg31 rfl) ?_
          refine WL_q rfl (ev_pick_f rfl hg26 rfl) ?_
          refine WL_nil ?_
          refine thenE_n ?_
          refine W_cond rfl (fun hg36 => ?_) (fun hg36 => ?_)
          · have hp36 := of_decide_eq_true hg36
            refine W_region ?_
            refine WL_q rfl (ev_move rfl) ?_
            refine WL_q rfl (ev_move rfl) ?_
            refine WL_q rfl (ev_move rfl) ?_
            refine WL_q rfl (ev_fieldAddr fo68_0 rfl) ?_
            refine WL_q rfl (ev_load one3 rfl (hB7.cell rfl)) ?_
            refine WL_q rfl (ev_fieldAddr fo68_1 rfl) ?_
            refine WL_q rfl (ev_load one3 rfl (hB7.cell rfl)) ?_
            refine WL_q rfl (ev_build4 sn74_4 rfl rfl rfl rfl rfl rfl rfl rfl) ?_
            refine WL_m rfl (ev_lit1 Try.underlying71 el74 (by decide) (by decide) rfl rfl) ?_
            rintro _ w47 ⟨rfl, hN47⟩
            have hz47 := hN47.size
            replace hE := hE.trans hN47.ext
            replace hRL0 := hRL0.trans hN47.ext
            replace hRL2 := hRL2.trans hN47.ext
            replace hA := hA.ext hN47.ext
            replace hB1 := hB1.ext hN47.ext
            replace hr14 := hr14.ext hN47.ext
            replace hO := hO.ext hN47.ext
            replace hB7 := hB7.ext hN47.ext
            have hB47 := hN47.blk
            refine WL_m rfl (ev_appendT Try.underlying71 el74 rfl (by decide) rfl rfl hO (SAt.of_blk (cs := [_, _, _, _]) (ds := []) hB47) rfl (by simp [Value.oneCell']) (by omega) (by unfold maxLen; omega) (by omega)) ?_
            rintro _ w48 ⟨a48, c48, rfl, hO48, hK48, hQ48⟩
            have hz48 := hK48.size
            replace hE := hE.rg hK48 (by omega)
            replace hRL0 := hRL0.rg hK48 (by omega)
            replace hRL2 := hRL2.rg hK48 (by omega)
            replace hA := hA.rg hK48 (by omega)
            replace hB1 := hB1.rg hK48 (by omega)
            replace hr14 := hr14.rg hK48 (by omega)
            replace hB7 := hB7.rg hK48 (by omega)
            replace hB47 := hB47.rg hK48 (by omega)
            replace hO := hO48
            replace hO := ownt_quad (x := ((i : Int), (k : Int), A.ends[i][k].1, A.ends[i][k].2)) hO
            refine WL_q rfl (ev_assign rfl) ?_
            refine WL_nil ?_
            refine blockE_n ?_
            refine thenE_n ?_
            refine W_region ?_
            refine WL_q rfl (ev_add rfl rfl (by omega)) ?_
            refine WL_q rfl (ev_move rfl) ?_
            refine WL_nil ?_
            refine thenE_n ?_
            have hfe := edR_yes (v := i) hlt2 (.inr ⟨hp31, hp36⟩)
            have hfe2 : (edN A.ends i ++ edR i A.ends[i] k) ++ [((i : Int), (k : Int), A.ends[i][k].1, A.ends[i][k].2)] = edN A.ends i ++ edR i A.ends[i] (k + 1) := by rw [hfe, List.append_assoc]
            exact ⟨(k + 1, a48, c48), (Subs.c rfl (Subs.c rfl (Subs.c rfl (Subs.c rfl (Subs.c rfl (Subs.c rfl Subs.n)))))), (Subs.c (lkS rfl (by rw [← hfe2]; simp; omega)) (Subs.c (lkI rfl (by omega)) Subs.n)), ⟨hRL2, ⟨by omega, (ownt_q hO hfe2 (by rw [← hfe2]; simp; omega)).up (Nat.le_refl _) (by omega)⟩⟩, by first | omega | (dsimp only; omega)⟩
          · have hp36 := of_decide_eq_false hg36
            refine W_skip ?_
            refine blockE_n ?_
            refine thenE_n ?_
            refine W_region ?_
            refine WL_q rfl (ev_add rfl rfl (by omega)) ?_
            refine WL_q rfl (ev_move rfl) ?_
            refine WL_nil ?_
            refine thenE_n ?_
            have hfe := edR_no (v := i) hlt2 (fun h => by rcases h with h | h; exact hp26 h; exact hp36 h.2)
            exact ⟨(k + 1, a2, c2), (Subs.c rfl (Subs.c rfl (Subs.c rfl (Subs.c rfl (Subs.c rfl (Subs.c rfl Subs.n)))))), (Subs.c (lkS rfl (by rw [hfe])) (Subs.c (lkI rfl (by omega)) Subs.n)), ⟨hRL2, ⟨by omega, (ownt_q hO (by rw [hfe]) (by rw [hfe])).up (Nat.le_refl _) (by omega)⟩⟩, by first | omega | (dsimp only; omega)⟩
        · have hp31 := of_decide_eq_false hg31
          refine WL_no rfl rfl hg31 rfl ?_
          refine WL_no rfl rfl hg31 rfl ?_
          refine WL_no rfl rfl hg31 rfl ?_
          refine WL_no rfl rfl hg31 rfl ?_
          refine WL_qg rfl rfl hg26 rfl (ev_pick_f rfl hg31 rfl) ?_
          refine WL_q rfl (ev_pick_f rfl hg26 rfl) ?_
          refine WL_nil ?_
          refine thenE_n ?_
          refine W_cond_f rfl ?_
          refine W_skip ?_
          refine blockE_n ?_
          refine thenE_n ?_
          refine W_region ?_
          refine WL_q rfl (ev_add rfl rfl (by omega)) ?_
          refine WL_q rfl (ev_move rfl) ?_
          refine WL_nil ?_
          refine thenE_n ?_
          have hfe := edR_no (v := i) hlt2 (fun h => by rcases h with h | h; exact hp26 h; exact hp31 h.1)
          exact ⟨(k + 1, a2, c2), (Subs.c rfl (Subs.c rfl (Subs.c rfl (Subs.c rfl (Subs.c rfl (Subs.c rfl Subs.n)))))), (Subs.c (lkS rfl (by rw [hfe])) (Subs.c (lkI rfl (by omega)) Subs.n)), ⟨hRL2, ⟨by omega, (ownt_q hO (by rw [hfe]) (by rw [hfe])).up (Nat.le_refl _) (by omega)⟩⟩, by first | omega | (dsimp only; omega)⟩
    · have hp19 := of_decide_eq_false hg19
      refine W_exit ?_
      refine thenE_x ?_
      refine thenE_x ?_
      refine blockE_hit ?_
      refine blockE_n ?_
      refine thenE_n ?_
      refine W_region ?_
      refine WL_q rfl (ev_add rfl rfl (by omega)) ?_
      refine WL_q rfl (ev_move rfl) ?_
      refine WL_nil ?_
      refine thenE_n ?_
      have hk9 : k = A.ends[i].length := by omega
      subst hk9
      exact ⟨(i + 1, a2, c2), (Subs.c rfl (Subs.c rfl Subs.n)), (Subs.c (lkS rfl (by rw [edN_succ hlt])) (Subs.c (lkI rfl (by omega)) Subs.n)), ⟨hRL0, ⟨by omega, (ownt_q hO (edN_succ hlt).symm (by rw [edN_succ hlt])).up (Nat.le_refl _) (by omega)⟩⟩, by first | omega | (dsimp only; omega)⟩
  · have hp12 := of_decide_eq_false hg12
    refine W_exit ?_
    refine thenE_x ?_
    refine thenE_x ?_
    refine blockE_hit ?_
    refine thenE_n ?_
    refine W_seq ?_
    refine W_region ?_
    refine WL_q rfl (ev_move rfl) ?_
    refine WL_q rfl (ev_assign rfl) ?_
    refine WL_nil ?_
    refine thenE_n ?_
    refine W_ret ?_
    refine ret1 rfl rfl ?_
    have hi9 : i = A.ends.length := by omega
    subst hi9
    exact ⟨_, _, rfl, hO.1.mono (by omega), hE⟩

set_option maxHeartbeats 4000000 in
set_option maxRecDepth 100000 in
theorem TwoColouring_spec {loA hiA : Nat} (nA : NA) (A : Net) (w : World) (hA : IsNet loA hiA w nA A) (hhiA : hiA ≤ w.heap.size) (hnA : totN A ≤ 1048576) :
    Fn Try.prog 37 #[netV nA A] w (fun o9 w' => ∃ a' c' ys q, o9 = .tuple #[.slice a' ys.length c', VB q] ∧ RV [] (opt (NOk A ∧ ColOk A.ends (colL A.ends)) (colL A.ends)) ys q ∧ OwnH w.heap.size w'.heap.size 0 0 w' 3 1 a' ys.length c' (ys.map VI) ∧ ys.length ≤ 1048576 ∧ Ext w w') := by
  have hqA := totL_len A.ends
  have hmA : totL A.ends + A.ids.length + A.inputs.length ≤ 1048576 := hnA
  have hE := Ext.refl w
  refine Fn_of Try.func37 rfl rfl (by kernel_rfl) rfl ?_
  refine W_seq ?_
  refine W_region ?_
  refine WL_m rfl (ev_box rfl) ?_
  rintro _ w1 ⟨rfl, hN1⟩
  have hz1 := hN1.size
  replace hE := hE.trans hN1.ext
  replace hA := hA.ext hN1.ext
  have hB1 : Blk w1 _ _ [_, _, _] := hN1.blk
  refine WL_q rfl (ev_assign rfl) ?_
  refine WL_q rfl (ev_assign rfl) ?_
  refine WL_nil ?_
  refine thenE_n ?_
  refine W_seq ?_
  refine W_seq ?_
  refine W_region ?_
  refine WL_q rfl (ev_loads st31 sz31 rfl (cellsB hB1) rfl) ?_
  refine WL_m rfl (ev_call rfl (IsNetwork_spec _ A _ hA (by omega) (by omega))) ?_
  rintro _ w10 ⟨b10, rfl, hb10, hE10⟩
  have hz10 := hE10.size
  replace hE := hE.trans hE10
  replace hA := hA.ext hE10
  replace hB1 := hB1.ext hE10
  refine WL_q rfl (ev_not rfl) ?_
  refine WL_nil ?_
  refine thenE_n ?_
  refine W_cond rfl (fun hg11 => ?_) (fun hg11 => ?_)
  · have hg10 := not_true hg11
    have hp10 := ttN hb10 hg10
    refine W_seq ?_
    refine W_region ?_
    refine WL_q rfl (ev_assign rfl) ?_
    refine WL_q rfl (ev_assign rfl) ?_
    refine WL_nil ?_
    refine thenE_n ?_
    refine W_ret ?_
    refine thenE_r ?_
    refine ret2 rfl rfl rfl ?_
    first | (exact ⟨none, 0, [], _, rfl, .no (fun h => hp10 h.1), OwnH.nil, by simp, hE⟩) | (exact ⟨none, 0, [], _, rfl, .no (fun h => not_colOk h.2 (List.getElem_mem hlj) (by omega) (by omega) hp48), OwnH.nil, by simp, hE⟩) | (exact ⟨_, _, _, true, rfl, .yes ⟨hp10, colOk_yes hp10 hJ (by omega)⟩ rfl, hO.up (by omega) (by omega), by omega, hE⟩)
  · have hg10 := not_false hg11
    have hp10 := hb10.1 hg10
    refine W_skip ?_
    refine thenE_n ?_
    refine W_seq ?_
    refine W_region ?_
    refine WL_q rfl (ev_assign rfl) ?_
    refine WL_nil ?_
    refine thenE_n ?_
    refine W_seq ?_
    refine W_seq ?_
    refine W_region ?_
    refine WL_q rfl (ev_loads st31 sz31 rfl (cellsB hB1) rfl) ?_
    have hk := hp10.endsOk
    have hs := hp10.sym
    have hnd := hp10.nodes
    have h6 := hp10.six
    have hpl := prt_len A.ends
    have hcl := colL_len A.ends
    refine WL_m rfl (ev_call rfl (components_spec _ A _ hA (by omega) (by omega) (by assumption) (by assumption) (by omega) (by omega))) ?_
    rintro _ w13 ⟨a13, c13, rfl, hO13, hE13⟩
    have hz13 := hE13.size
    replace hE := hE.trans hE13
    replace hA := hA.ext hE13
    replace hB1 := hB1.ext hE13
    have hI13 := own_i hO13
    refine WL_q rfl (ev_len Try.underlying23 rfl) ?_
    refine WL_q rfl (ev_move rfl) ?_
    refine WL_nil ?_
    refine thenE_n ?_
    refine W_block ?_
    refine W_loopC (G := Nat × Option Addr × Nat) [(1, _), (13, _), (14, _)] ((Subs.c rfl (Subs.c rfl (Subs.c rfl Subs.n)))) (fun ⟨i, a, c⟩ => [(4, .slice a i c), (15, VI (i : Int))]) (fun ⟨i, a, c⟩ w' => Ext w13 w' ∧ i ≤ A.ends.length ∧ OwnH w13.heap.size w'.heap.size 0 0 w' 3 1 a i c (((colL A.ends).take i).map VI)) (fun g => A.ends.length - g.1) (0, none, 0) ((Subs.c rfl (Subs.c (lkI rfl (by omega)) Subs.n))) (⟨Ext.refl _, ⟨by omega, OwnH.nil⟩⟩) ?_
    rintro ⟨i, a, c⟩ wL0 ⟨hRL0, hi', hO⟩
    have hzL0 := hRL0.size
    replace hE := hE.trans hRL0
    replace hA := hA.ext hRL0
    replace hB1 := hB1.ext hRL0
    replace hI13 := hI13.ext hRL0
    refine W_seq ?_
    refine W_region ?_
    refine WL_q rfl (ev_lss rfl rfl) ?_
    refine WL_nil ?_
    refine thenE_n ?_
    refine W_seq ?_
    refine W_cond rfl (fun hg16 => ?_) (fun hg16 => ?_)
    · have hp16 := of_decide_eq_true hg16
      refine W_skip ?_
      refine thenE_n ?_
      refine W_seq ?_
      refine W_block ?_
      refine W_seq ?_
      refine W_region ?_
      refine WL_q rfl (ev_move rfl) ?_
      have hlt : i < (prt A.ends).length := by omega
      obtain ⟨hpb1, hpb2, hpb3⟩ := prt_bfs hk hs (by omega) hlt
      have hpb4 := hpb3 (by omega)
      refine WL_q rfl (ev_indexAddr Try.underlying23 sz3 rfl rfl (hI13.isSome (by omega)) (by omega) (by omega)) ?_
      refine WL_q rfl (ev_load one3 rfl (hI13.cell (i := i) (by omega))) ?_
      refine WL_q rfl (ev_assign rfl) ?_
      refine WL_q rfl (ev_assign rfl) ?_
      refine WL_nil ?_
      refine thenE_n ?_
      refine W_region ?_
      refine WL_q rfl (ev_move rfl) ?_
      refine WL_q rfl (ev_loads st31 sz31 rfl (cellsB hB1) rfl) ?_
      refine WL_q rfl (ev_move rfl) ?_
      refine WL_m rfl (ev_call rfl (dist_spec _ A _ _ hA (by omega) (by omega) (by assumption) (by omega))) ?_
      rintro _ w23 ⟨a23, c23, rfl, hO23, hE23⟩
      have hz23 := hE23.size
      replace hE := hE.trans hE23
      replace hRL0 := hRL0.trans hE23
      replace hA := hA.ext hE23
      replace hB1 := hB1.ext hE23
      replace hI13 := hI13.ext hE23
      replace hO := hO.ext hE23
      refine WL_q rfl (ev_move rfl) ?_
      refine WL_q rfl (ev_indexAddr Try.underlying23 sz3 rfl rfl ((own_i hO23).isSome (by omega)) (by omega) (by omega)) ?_
      refine WL_q rfl (ev_load one3 rfl ((own_i hO23).cell (i := i) (by omega))) ?_
      refine WL_q rfl (ev_rem rfl rfl (by omega) (by omega)) ?_
      refine WL_m rfl (ev_lit1 Try.underlying23 el3 (by decide) (by decide) rfl rfl) ?_
      rintro _ w28 ⟨rfl, hN28⟩
      have hz28 := hN28.size
      replace hE := hE.trans hN28.ext
      replace hRL0 := hRL0.trans hN28.ext
      replace hA := hA.ext hN28.ext
      replace hB1 := hB1.ext hN28.ext
      replace hI13 := hI13.ext hN28.ext
      replace hO := hO.ext hN28.ext
      replace hO23 := hO23.ext hN28.ext
      have hB28 := hN28.blk
      refine WL_m rfl (ev_appendT Try.underlying23 el3 rfl (by decide) rfl rfl hO (SAt.of_blk (cs := [_]) (ds := []) hB28) rfl (by simp [Value.oneCell']) (by omega) (by unfold maxLen; omega) (by omega)) ?_
      rintro _ w29 ⟨a29, c29, rfl, hO29, hK29, hQ29⟩
      have hz29 := hK29.size
      replace hE := hE.rg hK29 (by omega)
      replace hRL0 := hRL0.rg hK29 (by omega)
      replace hA := hA.rg hK29 (by omega)
      replace hB1 := hB1.rg hK29 (by omega)
      replace hI13 := hI13.rg hK29 (by omega)
      replace hO23 := hO23.rg hK29 (by omega)
      replace hB28 := hB28.rg hK29 (by omega)
      replace hO := hO29
      replace hO := ownt_snocI hO
      refine WL_q rfl (ev_assign rfl) ?_
      refine WL_nil ?_
      refine blockE_n ?_
      refine thenE_n ?_
      refine W_region ?_
      refine WL_q rfl (ev_add rfl rfl (by omega)) ?_
      refine WL_q rfl (ev_move rfl) ?_
      refine WL_nil ?_
      refine thenE_n ?_
      exact ⟨(i + 1, a29, c29), (Subs.c rfl (Subs.c rfl (Subs.c rfl Subs.n))), (Subs.c rfl (Subs.c (lkI rfl (by omega)) Subs.n)), ⟨hRL0, ⟨by omega, (ownt_take hO (by omega) ((colL_at (by omega) (h2 := hlt) (h3 := by omega)).symm)).up (Nat.le_refl _) (by omega)⟩⟩, by first | omega | (dsimp only; omega)⟩
    · have hp16 := of_decide_eq_false hg16
      refine W_exit ?_
      refine thenE_x ?_
      refine thenE_x ?_
      refine blockE_hit ?_
      refine thenE_n ?_
      refine W_seq ?_
      refine W_seq ?_
      refine W_region ?_
      have hi9 : i = (colL A.ends).length := by omega
      subst hi9
      rw [List.take_length] at hO
      have hIc := ownt_is hO
      refine WL_q rfl (ev_loads st31 sz31 rfl (cellsB hB1) rfl) ?_
      refine WL_m rfl (ev_call rfl (edges_spec _ A _ hA (by omega) (by omega) (by assumption) (by omega))) ?_
      rintro _ w32 ⟨a32, c32, rfl, hO32, hE32⟩
      have hz32 := hE32.size
      replace hE := hE.trans hE32
      replace hA := hA.ext hE32
      replace hB1 := hB1.ext hE32
      replace hI13 := hI13.ext hE32
      replace hO := hO.ext hE32
      replace hIc := hIc.ext hE32
      have hQ32 := hO32.quads rfl
      refine WL_q rfl (ev_len Try.underlying71 rfl) ?_
      refine WL_q rfl (ev_move rfl) ?_
      refine WL_nil ?_
      refine thenE_n ?_
      refine W_block ?_
      have hbd := edL_bd h6 (by omega)
      refine W_loopC (G := Nat) [(4, _), (32, _), (33, _)] ((Subs.c rfl (Subs.c rfl (Subs.c rfl Subs.n)))) (fun j => [(34, VI (j : Int))]) (fun j w' => Ext w32 w' ∧ j ≤ (edL A.ends).length ∧ ∀ x (_h : x < j) (h2 : x < (edL A.ends).length), ColE (colL A.ends) (edL A.ends)[x]) (fun j => (edL A.ends).length - j) 0 ((Subs.c (lkI rfl (by omega)) Subs.n)) (⟨Ext.refl _, ⟨Nat.zero_le _, fun j h => by omega⟩⟩) ?_
      rintro j wL2 ⟨hRL2, hj', hJ⟩
      have hzL2 := hRL2.size
      replace hE := hE.trans hRL2
      replace hA := hA.ext hRL2
      replace hB1 := hB1.ext hRL2
      replace hI13 := hI13.ext hRL2
      replace hO := hO.ext hRL2
      replace hIc := hIc.ext hRL2
      replace hQ32 := hQ32.ext hRL2
      refine W_seq ?_
      refine W_region ?_
      refine WL_q rfl (ev_lss rfl rfl) ?_
      refine WL_nil ?_
      refine thenE_n ?_
      refine W_seq ?_
      refine W_cond rfl (fun hg35 => ?_) (fun hg35 => ?_)
      · have hp35 := of_decide_eq_true hg35
        refine W_skip ?_
        refine thenE_n ?_
        refine W_seq ?_
        refine W_block ?_
        refine W_seq ?_
        refine W_region ?_
        have hlj : j < (edL A.ends).length := by omega
        obtain ⟨⟨hq1, hq2⟩, hq3, hq4⟩ := edL_at hk hlj
        refine WL_q rfl (ev_indexAddr Try.underlying71 sz74 rfl rfl (hQ32.isSome (by omega)) (by omega) (by omega)) ?_
        refine WL_q rfl (ev_loads st74 sz74 rfl (hQ32.cells (i := j) (by omega)) rfl) ?_
        refine WL_m rfl (ev_alloc zr74) ?_
        rintro _ w8 ⟨rfl, hN8⟩
        have hz8 := hN8.size
        replace hE := hE.trans hN8.ext
        replace hRL2 := hRL2.trans hN8.ext
        replace hA := hA.ext hN8.ext
        replace hB1 := hB1.ext hN8.ext
        replace hI13 := hI13.ext hN8.ext
        replace hO := hO.ext hN8.ext
        replace hIc := hIc.ext hN8.ext
        replace hQ32 := hQ32.ext hN8.ext
        have hB8 : Blk w8 _ _ [_, _, _, _] := hN8.blk
        refine WL_s (ev_stores sz74 rfl rfl rfl (qCells_one _) hB8 (by exact Nat.le_refl 4)) ?_
        rintro _ w11_3 hS11_3
        have hz11_3 := hS11_3.size
        replace hE := hE.sto hS11_3 (by omega)
        replace hRL2 := hRL2.sto hS11_3 (by omega)
        replace hA := hA.sto hS11_3 (by omega)
        replace hB1 := hB1.sto hS11_3 (by omega)
        replace hI13 := hI13.sto hS11_3 (by omega)
        replace hO := hO.sto hS11_3 (by omega)
        replace hIc := hIc.sto hS11_3 (by omega)
        replace hQ32 := hQ32.sto hS11_3 (by omega)
        replace hB8 : Blk w11_3 _ _ [_, _, _, _] := hS11_3.blk
        refine WL_nil ?_
        refine thenE_n ?_
        refine W_seq ?_
        refine W_drawE [(0, true), (1, true), (2, true), (3, true), (4, true), (5, true), (6, true), (7, true), (8, true), (9, true), (10, true)] mixed (by kernel_rfl) rfl (by kernel_rfl) ?_
        intro wd12 hEd12 hzd12
        replace hE := hE.trans hEd12
        replace hRL2 := hRL2.trans hEd12
        replace hA := hA.ext hEd12
        replace hB1 := hB1.ext hEd12
        replace hI13 := hI13.ext hEd12
        replace hO := hO.ext hEd12
        replace hIc := hIc.ext hEd12
        replace hQ32 := hQ32.ext hEd12
        replace hB8 := hB8.ext hEd12
        have hDd12 := Ext.refl wd12
        refine PW_q rfl rfl (fun wq hq => ev_move rfl) ?_
        refine PW_q rfl rfl (fun wq hq => ev_fieldAddr fo74_0 rfl) ?_
        refine PW_q rfl rfl (fun wq hq => ev_load one3 rfl (hq.cell (hB8.cell rfl))) ?_
        refine PW_q rfl rfl (fun wq hq => ev_indexAddr Try.underlying23 sz3 rfl rfl (hIc.isSome (by omega)) (by omega) (by omega)) ?_
        have hc42 := hIc.cell (i := ((edL A.ends)[j].1).toNat) (by omega)
        refine PW_q rfl rfl (fun wq hq => ev_load one3 rfl (hq.cell (hc42))) ?_
        refine PW_q rfl rfl (fun wq hq => ev_move rfl) ?_
        refine PW_q rfl rfl (fun wq hq => ev_fieldAddr fo74_2 rfl) ?_
        refine PW_q rfl rfl (fun wq hq => ev_load one3 rfl (hq.cell (hB8.cell rfl))) ?_
        refine PW_q rfl rfl (fun wq hq => ev_indexAddr Try.underlying23 sz3 rfl rfl (hIc.isSome (by omega)) (by omega) (by omega)) ?_
        have hc47 := hIc.cell (i := ((edL A.ends)[j].2.2.1).toNat) (by omega)
        refine PW_q rfl rfl (fun wq hq => ev_load one3 rfl (hq.cell (hc47))) ?_
        refine PW_q rfl rfl (fun wq hq => ev_eql rfl rfl) ?_
        refine PW_nil ?_
        refine thenE_n ?_
        refine W_cond rfl (fun hg48 => ?_) (fun hg48 => ?_)
        · have hp48 := of_decide_eq_true hg48
          refine W_seq ?_
          refine W_region ?_
          refine WL_q rfl (ev_assign rfl) ?_
          refine WL_q rfl (ev_assign rfl) ?_
          refine WL_nil ?_
          refine thenE_n ?_
          refine W_ret ?_
          refine blockE_r ?_
          refine thenE_r ?_
          refine thenE_r ?_
          refine blockE_r ?_
          refine thenE_r ?_
          refine ret2 rfl rfl rfl ?_
          first | (exact ⟨none, 0, [], _, rfl, .no (fun h => hp10 h.1), OwnH.nil, by simp, hE⟩) | (exact ⟨none, 0, [], _, rfl, .no (fun h => not_colOk h.2 (List.getElem_mem hlj) (by omega) (by omega) hp48), OwnH.nil, by simp, hE⟩) | (exact ⟨_, _, _, true, rfl, .yes ⟨hp10, colOk_yes hp10 hJ (by omega)⟩ rfl, hO.up (by omega) (by omega), by omega, hE⟩)
        · have hp48 := of_decide_eq_false hg48
          refine W_skip ?_
          refine blockE_n ?_
          refine thenE_n ?_
          refine W_region ?_
          refine WL_q rfl (ev_add rfl rfl (by omega)) ?_
          refine WL_q rfl (ev_move rfl) ?_
          refine WL_nil ?_
          refine thenE_n ?_
          exact ⟨j + 1, (Subs.c rfl (Subs.c rfl (Subs.c rfl Subs.n))), (Subs.c (lkI rfl (by omega)) Subs.n), ⟨hRL2, ⟨by omega, dsucc (P := fun x h2 => ColE (colL A.ends) (edL A.ends)[x]) hJ hlj (colE_at (h1 := by omega) (h2 := by omega) hp48)⟩⟩, by first | omega | (dsimp only; omega)⟩
      · have hp35 := of_decide_eq_false hg35
        refine W_exit ?_
        refine thenE_x ?_
        refine thenE_x ?_
        refine blockE_hit ?_
        refine thenE_n ?_
        refine W_seq ?_
        refine W_region ?_
        refine WL_q rfl (ev_move rfl) ?_
        refine WL_q rfl (ev_assign rfl) ?_
        refine WL_q rfl (ev_assign rfl) ?_
        refine WL_nil ?_
        refine thenE_n ?_
        refine W_ret ?_
        refine ret2 rfl rfl rfl ?_
        first | (exact ⟨none, 0, [], _, rfl, .no (fun h => hp10 h.1), OwnH.nil, by simp, hE⟩) | (exact ⟨none, 0, [], _, rfl, .no (fun h => not_colOk h.2 (List.getElem_mem hlj) (by omega) (by omega) hp48), OwnH.nil, by simp, hE⟩) | (exact ⟨_, _, _, true, rfl, .yes ⟨hp10, colOk_yes hp10 hJ (by omega)⟩ rfl, hO.up (by omega) (by omega), by omega, hE⟩)

set_option maxHeartbeats 4000000 in
set_option maxRecDepth 100000 in
theorem meTwo_spec {loA hiA : Nat} (nA : NA) (A : Net) (w : World) (hA : IsNet loA hiA w nA A) (hhiA : hiA ≤ w.heap.size) (hnA : totN A ≤ 1048576) (hkA : NOk A) :
    Fn Try.prog 77 #[netV nA A] w (fun o9 w' => ∃ a' c' ys q, o9 = .tuple #[.slice a' ys.length c', VB q] ∧ RV [] (opt (ColOk A.ends (colL A.ends)) (colL A.ends)) ys q ∧ Ints 0 w'.heap.size w' a' c' ys ∧ ys.length ≤ 1048576 ∧ Ext w w') := by
  have hqA := totL_len A.ends
  have hmA : totL A.ends + A.ids.length + A.inputs.length ≤ 1048576 := hnA
  have hk := hkA.endsOk
  have hs := hkA.sym
  have hnd := hkA.nodes
  have h6 := hkA.six
  have hpl := prt_len A.ends
  have hcl := colL_len A.ends
  have hE := Ext.refl w
  refine Fn_of Try.func77 rfl rfl (by kernel_rfl) rfl ?_
  refine W_seq ?_
  refine W_region ?_
  refine WL_m rfl (ev_box rfl) ?_
  rintro _ w1 ⟨rfl, hN1⟩
  have hz1 := hN1.size
  replace hE := hE.trans hN1.ext
  replace hA := hA.ext hN1.ext
  have hB1 : Blk w1 _ _ [_, _, _] := hN1.blk
  refine WL_q rfl (ev_assign rfl) ?_
  refine WL_q rfl (ev_assign rfl) ?_
  refine WL_nil ?_
  refine thenE_n ?_
  refine W_seq ?_
  refine W_region ?_
  refine WL_q rfl (ev_fieldAddr fo31_0 rfl) ?_
  refine WL_q rfl (ev_load one29 rfl (hB1.cell rfl)) ?_
  refine WL_q rfl (ev_len Try.underlying29 rfl) ?_
  refine WL_m rfl (ev_makeN Try.underlying23 el3 rfl rfl rfl (by omega) (by omega)) ?_
  rintro _ w13 ⟨rfl, hN13⟩
  have hz13 := hN13.size
  replace hE := hE.trans hN13.ext
  replace hA := hA.ext hN13.ext
  replace hB1 := hB1.ext hN13.ext
  have hB13 := hN13.blk
  refine WL_q rfl (ev_assign rfl) ?_
  refine WL_nil ?_
  refine thenE_n ?_
  refine W_seq ?_
  refine W_region ?_
  refine WL_q rfl (ev_loads st31 sz31 rfl (cellsB hB1) rfl) ?_
  refine WL_m rfl (ev_call rfl (meParts_spec _ A _ hA (by omega) (by omega) (by assumption) (by assumption) (by omega) (by omega))) ?_
  rintro _ w15 ⟨a15, c15, rfl, hO15, hE15⟩
  have hz15 := hE15.size
  replace hE := hE.trans hE15
  replace hA := hA.ext hE15
  replace hB1 := hB1.ext hE15
  replace hB13 := hB13.ext hE15
  have hI15 := own_i hO15
  refine WL_q rfl (ev_assign rfl) ?_
  refine WL_nil ?_
  refine thenE_n ?_
  refine W_seq ?_
  refine W_seq ?_
  refine W_region ?_
  refine WL_q rfl (ev_move rfl) ?_
  refine WL_q rfl (ev_len Try.underlying23 rfl) ?_
  refine WL_q rfl (ev_move rfl) ?_
  refine WL_nil ?_
  refine thenE_n ?_
  refine W_block ?_
  have hBk0 : Blk w15 w1.heap.size 3 ((fillL (colL A.ends) 0).map VI) := by rw [fillL_zero, hcl, List.map_replicate]; exact hB13
  refine W_loopC (G := Nat) [(1, _), (4, _), (5, _), (17, _)] ((Subs.c rfl (Subs.c rfl (Subs.c rfl (Subs.c rfl Subs.n))))) (fun i => [(18, VI (i : Int))]) (fun i w' => KX (w1.heap.size) w15 w' ∧ i ≤ A.ends.length ∧ Blk w' w1.heap.size 3 ((fillL (colL A.ends) i).map VI)) (fun i => A.ends.length - i) 0 ((Subs.c (lkI rfl (by omega)) Subs.n)) (⟨KX.refl _ _, ⟨Nat.zero_le _, hBk0⟩⟩) ?_
  rintro i wL0 ⟨hRL0, hi', hBk⟩
  have hzL0 := hRL0.size
  replace hA := hA.kx hRL0 (by omega)
  replace hB1 := hB1.kx hRL0 (by omega)
  replace hI15 := hI15.kx hRL0 (by omega)
  replace hE := hE.kx hRL0 (by omega)
  have hfl := fillL_len (L := colL A.ends) (i := i) (by omega)
  refine W_seq ?_
  refine W_region ?_
  refine WL_q rfl (ev_lss rfl rfl) ?_
  refine WL_nil ?_
  refine thenE_n ?_
  refine W_seq ?_
  refine W_cond rfl (fun hg19 => ?_) (fun hg19 => ?_)
  · have hp19 := of_decide_eq_true hg19
    refine W_skip ?_
    refine thenE_n ?_
    refine W_seq ?_
    refine W_block ?_
    refine W_seq ?_
    refine W_region ?_
    refine WL_q rfl (ev_move rfl) ?_
    refine WL_q rfl (ev_assign rfl) ?_
    refine WL_nil ?_
    refine thenE_n ?_
    refine W_drawV w1.heap.size (w1.heap.size + 1) 0 0 [(0, true), (1, true), (2, true), (3, true), (4, true), (5, true), (6, true), (8, true), (7, false), (9, true), (10, true), (11, true), (12, true), (13, false)] mixed (by kernel_rfl) rfl (by kernel_rfl) ?_
    intro wd6 hEd6 hzd6
    replace hE := hE.trans hEd6
    replace hRL0 := hRL0.trans hEd6
    replace hA := hA.ext hEd6
    replace hB1 := hB1.ext hEd6
    replace hI15 := hI15.ext hEd6
    replace hBk := hBk.ext hEd6
    have hlt : i < (prt A.ends).length := by omega
    obtain ⟨hpb1, hpb2, hpb3⟩ := prt_bfs hk hs (by omega) hlt
    have hpb4 := hpb3 (by omega)
    have hDd6 := (Rg.refl : Rg w1.heap.size (w1.heap.size + 1) 0 0 wd6 wd6)
    refine PV_q rfl rfl (fun wq hq => ev_move rfl) ?_
    refine PV_q rfl rfl (fun wq hq => ev_move rfl) ?_
    refine PV_q rfl rfl (fun wq hq => ev_loads st31 sz31 rfl (cellsB (hB1.rg hq.1 (by omega))) rfl) ?_
    refine PV_q rfl rfl (fun wq hq => ev_move rfl) ?_
    refine PV_q rfl rfl (fun wq hq => ev_move rfl) ?_
    refine PV_q rfl rfl (fun wq hq => ev_indexAddr Try.underlying23 sz3 rfl rfl (hI15.isSome (by omega)) (by omega) (by omega)) ?_
    refine PV_q rfl rfl (fun wq hq => ev_load one3 rfl ((hI15.rg hq.1 (by omega)).cellJ (i := i) (j := Int.toNat ((i : Nat) : Int)) (by omega) (by omega))) ?_
    refine PV_q rfl rfl (fun wq hq => ev_move rfl) ?_
    refine PV_m w1.heap.size (w1.heap.size + 1) 0 0 rfl rfl (ev_call rfl (meFrom_spec _ A _ _ hA (by omega) (by omega) (by assumption) (by omega))) ?_
    rintro _ w28 ⟨a28, c28, rfl, hO28, hE28⟩
    have hz28 := hE28.size
    replace hE := hE.trans hE28
    replace hRL0 := hRL0.trans hE28
    replace hDd6 := hDd6.trans hE28
    replace hA := hA.ext hE28
    replace hB1 := hB1.ext hE28
    replace hI15 := hI15.ext hE28
    replace hBk := hBk.ext hE28
    have hI28 := own_i hO28
    refine ⟨fun _ hx => ⟨hDd6.rg hx (by omega), trivial⟩, ?_⟩
    have hDd6 := (Rg.refl : Rg w1.heap.size (w1.heap.size + 1) 0 0 w28 w28)
    refine PV_q rfl rfl (fun wq hq => ev_indexAddr Try.underlying23 sz3 rfl rfl (hI28.isSome (by omega)) (by omega) (by omega)) ?_
    refine PV_q rfl rfl (fun wq hq => ev_load one3 rfl ((hI28.rg hq.1 (by omega)).cellJ (i := i) (j := Int.toNat ((i : Nat) : Int)) (by omega) (by omega))) ?_
    refine PV_q rfl rfl (fun wq hq => ev_rem rfl rfl (by omega) (by omega)) ?_
    refine PV_q rfl rfl (fun wq hq => ev_indexAddr Try.underlying23 sz3 rfl rfl rfl (by omega) (by omega)) ?_
    refine PV_s w1.heap.size (w1.heap.size + 1) 0 0 rfl (ev_store sz3 rfl rfl rfl hBk (by simp; omega)) ?_
    rintro _ w6_13 hS6_13
    have hz6_13 := hS6_13.size
    replace hE := hE.sto hS6_13 (by omega)
    replace hRL0 := hRL0.sto hS6_13 (by omega)
    replace hDd6 := hDd6.sto hS6_13 (by omega)
    replace hA := hA.sto hS6_13 (by omega)
    replace hB1 := hB1.sto hS6_13 (by omega)
    replace hI15 := hI15.sto hS6_13 (by omega)
    replace hI28 := hI28.sto hS6_13 (by omega)
    replace hBk := hS6_13.blk
    replace hBk := iset (i := i) (by omega) hBk
    refine ⟨fun _ hx => ⟨hDd6.rg hx (by omega), trivial⟩, ?_⟩
    have hDd6 := (Rg.refl : Rg w1.heap.size (w1.heap.size + 1) 0 0 w6_13 w6_13)
    refine PV_nil ?_
    refine blockE_n ?_
    refine thenE_n ?_
    refine W_region ?_
    refine WL_q rfl (ev_add rfl rfl (by omega)) ?_
    refine WL_q rfl (ev_move rfl) ?_
    refine WL_nil ?_
    refine thenE_n ?_
    rw [fillL_put (by omega) (colL_at (by omega) (h2 := hlt) (h3 := by omega))] at hBk
    exact ⟨i + 1, (Subs.c rfl (Subs.c rfl (Subs.c rfl (Subs.c rfl Subs.n)))), (Subs.c (lkI rfl (by omega)) Subs.n), ⟨hRL0, ⟨by omega, hBk⟩⟩, by first | omega | (dsimp only; omega)⟩
  · have hp19 := of_decide_eq_false hg19
    refine W_exit ?_
    refine thenE_x ?_
    refine thenE_x ?_
    refine blockE_hit ?_
    refine thenE_n ?_
    refine W_seq ?_
    refine W_seq ?_
    refine W_region ?_
    have hi9 : i = (colL A.ends).length := by omega
    rw [fillL_full (by omega)] at hBk
    have hIc := Blk.ints hBk (Nat.le_refl _)
    rw [hcl] at hIc
    refine WL_q rfl (ev_move rfl) ?_
    refine WL_q rfl (ev_len Try.underlying23 rfl) ?_
    refine WL_q rfl (ev_move rfl) ?_
    refine WL_nil ?_
    refine thenE_n ?_
    refine W_block ?_
    refine W_loopC (G := Nat) [(1, _), (4, _), (36, _)] ((Subs.c rfl (Subs.c rfl (Subs.c rfl Subs.n)))) (fun i => [(37, VI (i : Int))]) (fun i w' => Ext wL0 w' ∧ i ≤ A.ends.length ∧ ∀ v (_h : v < i) (h2 : v < A.ends.length), ColR A.ends (colL A.ends) v) (fun i => A.ends.length - i) 0 ((Subs.c (lkI rfl (by omega)) Subs.n)) (⟨Ext.refl _, ⟨Nat.zero_le _, fun j h => by omega⟩⟩) ?_
    rintro i wL2 ⟨hRL2, hi', hJ⟩
    have hzL2 := hRL2.size
    replace hE := hE.trans hRL2
    replace hA := hA.ext hRL2
    replace hB1 := hB1.ext hRL2
    replace hI15 := hI15.ext hRL2
    replace hBk := hBk.ext hRL2
    replace hIc := hIc.ext hRL2
    refine W_seq ?_
    refine W_region ?_
    refine WL_q rfl (ev_lss rfl rfl) ?_
    refine WL_nil ?_
    refine thenE_n ?_
    refine W_seq ?_
    refine W_cond rfl (fun hg38 => ?_) (fun hg38 => ?_)
    · have hp38 := of_decide_eq_true hg38
      refine W_skip ?_
      refine thenE_n ?_
      refine W_seq ?_
      refine W_block ?_
      refine W_seq ?_
      refine W_region ?_
      refine WL_q rfl (ev_move rfl) ?_
      refine WL_q rfl (ev_assign rfl) ?_
      refine WL_nil ?_
      refine thenE_n ?_
      refine W_seq ?_
      refine W_region ?_
      refine WL_q rfl (ev_loads st31 sz31 rfl (cellsB hB1) rfl) ?_
      refine WL_q rfl (ev_move rfl) ?_
      have hlt : i < A.ends.length := by omega
      have hnl : (near A.ends (i : Int)).length = A.ends[i].length := by have := near_len (ends := A.ends) (x := (i : Int)) (by simpa using hlt); simpa using this
      have htl := totL_le hlt
      refine WL_m rfl (ev_call rfl (neNear_spec _ A (i : Int) _ hA (by omega) (by omega) (by omega))) ?_
      rintro _ w42 ⟨a42, c42, rfl, hO42, hE42⟩
      have hz42 := hE42.size
      replace hE := hE.trans hE42
      replace hRL2 := hRL2.trans hE42
      replace hA := hA.ext hE42
      replace hB1 := hB1.ext hE42
      replace hI15 := hI15.ext hE42
      replace hBk := hBk.ext hE42
      replace hIc := hIc.ext hE42
      have hI42 := own_i hO42
      refine WL_q rfl (ev_len Try.underlying23 rfl) ?_
      refine WL_q rfl (ev_move rfl) ?_
      refine WL_nil ?_
      refine thenE_n ?_
      refine W_block ?_
      refine W_loopC (G := Nat) [(1, _), (4, _), (7, _), (36, _), (37, _), (42, _), (43, _)] ((Subs.c rfl (Subs.c rfl (Subs.c rfl (Subs.c rfl (Subs.c rfl (Subs.c rfl (Subs.c rfl Subs.n)))))))) (fun k => [(44, VI (k : Int))]) (fun k w' => Ext w42 w' ∧ k ≤ (near A.ends (i : Int)).length ∧ ∀ y (_h : y < k) (h2 : y < (near A.ends (i : Int)).length), (colL A.ends).getD i 0 ≠ (colL A.ends).getD ((near A.ends (i : Int)).getD y 0).toNat 0) (fun k => (near A.ends (i : Int)).length - k) 0 ((Subs.c (lkI rfl (by omega)) Subs.n)) (⟨Ext.refl _, ⟨Nat.zero_le _, fun j h => by omega⟩⟩) ?_
      rintro k wL4 ⟨hRL4, hk', hJ2⟩
      have hzL4 := hRL4.size
      replace hE := hE.trans hRL4
      replace hRL2 := hRL2.trans hRL4
      replace hA := hA.ext hRL4
      replace hB1 := hB1.ext hRL4
      replace hI15 := hI15.ext hRL4
      replace hBk := hBk.ext hRL4
      replace hIc := hIc.ext hRL4
      replace hI42 := hI42.ext hRL4
      refine W_seq ?_
      refine W_region ?_
      refine WL_q rfl (ev_lss rfl rfl) ?_
      refine WL_nil ?_
      refine thenE_n ?_
      refine W_seq ?_
      refine W_cond rfl (fun hg45 => ?_) (fun hg45 => ?_)
      · have hp45 := of_decide_eq_true hg45
        refine W_skip ?_
        refine thenE_n ?_
        refine W_seq ?_
        refine W_block ?_
        refine W_seq ?_
        refine W_region ?_
        have hlk : k < (near A.ends (i : Int)).length := by omega
        obtain ⟨hn1, hn2⟩ := near_ok hk (i : Int) _ (List.getElem_mem hlk)
        refine WL_q rfl (ev_indexAddr Try.underlying23 sz3 rfl rfl (hI42.isSome (by omega)) (by omega) (by omega)) ?_
        refine WL_q rfl (ev_load one3 rfl (hI42.cell (i := k) (by omega))) ?_
        refine WL_q rfl (ev_assign rfl) ?_
        refine WL_nil ?_
        refine thenE_n ?_
        refine W_seq ?_
        refine W_drawE [(0, true), (1, true), (2, true), (3, true), (4, true), (5, true), (6, true), (7, true), (8, true)] mixed (by kernel_rfl) rfl (by kernel_rfl) ?_
        intro wd14 hEd14 hzd14
        replace hE := hE.trans hEd14
        replace hRL2 := hRL2.trans hEd14
        replace hRL4 := hRL4.trans hEd14
        replace hA := hA.ext hEd14
        replace hB1 := hB1.ext hEd14
        replace hI15 := hI15.ext hEd14
        replace hBk := hBk.ext hEd14
        replace hIc := hIc.ext hEd14
        replace hI42 := hI42.ext hEd14
        have hDd14 := Ext.refl wd14
        refine PW_q rfl rfl (fun wq hq => ev_move rfl) ?_
        refine PW_q rfl rfl (fun wq hq => ev_move rfl) ?_
        refine PW_q rfl rfl (fun wq hq => ev_indexAddr Try.underlying23 sz3 rfl rfl (hIc.isSome (by omega)) (by omega) (by omega)) ?_
        have hc51 := hIc.cell (i := i) (by omega)
        refine PW_q rfl rfl (fun wq hq => ev_load one3 rfl (hq.cell (hc51))) ?_
        refine PW_q rfl rfl (fun wq hq => ev_move rfl) ?_
        refine PW_q rfl rfl (fun wq hq => ev_move rfl) ?_
        refine PW_q rfl rfl (fun wq hq => ev_indexAddr Try.underlying23 sz3 rfl rfl (hIc.isSome (by omega)) (by omega) (by omega)) ?_
        have hc55 := hIc.cell (i := ((near A.ends (i : Int))[k]).toNat) (by omega)
        refine PW_q rfl rfl (fun wq hq => ev_load one3 rfl (hq.cell (hc55))) ?_
        refine PW_q rfl rfl (fun wq hq => ev_eql rfl rfl) ?_
        refine PW_nil ?_
        refine thenE_n ?_
        refine W_cond rfl (fun hg56 => ?_) (fun hg56 => ?_)
        · have hp56 := of_decide_eq_true hg56
          refine W_seq ?_
          refine W_region ?_
          refine WL_q rfl (ev_assign rfl) ?_
          refine WL_q rfl (ev_assign rfl) ?_
          refine WL_nil ?_
          refine thenE_n ?_
          refine W_ret ?_
          refine blockE_r ?_
          refine thenE_r ?_
          refine thenE_r ?_
          refine blockE_r ?_
          refine blockE_r ?_
          refine thenE_r ?_
          refine thenE_r ?_
          refine blockE_r ?_
          refine thenE_r ?_
          refine ret2 rfl rfl rfl ?_
          first | (exact ⟨none, 0, [], _, rfl, .no (fun h => colR_no h hlt hlk (h1 := by omega) (h2 := by omega) hp56), Ints.nil, by simp, hE⟩) | (exact ⟨_, _, colL A.ends, true, by rw [hcl], .yes (colR_all fun v hv => hJ v (by omega) hv) rfl, hIc.mono (Nat.zero_le _) (by omega), by omega, hE⟩)
        · have hp56 := of_decide_eq_false hg56
          refine W_skip ?_
          refine blockE_n ?_
          refine thenE_n ?_
          refine W_region ?_
          refine WL_q rfl (ev_add rfl rfl (by omega)) ?_
          refine WL_q rfl (ev_move rfl) ?_
          refine WL_nil ?_
          refine thenE_n ?_
          exact ⟨k + 1, (Subs.c rfl (Subs.c rfl (Subs.c rfl (Subs.c rfl (Subs.c rfl (Subs.c rfl (Subs.c rfl Subs.n))))))), (Subs.c (lkI rfl (by omega)) Subs.n), ⟨hRL4, ⟨by omega, dsucc (P := fun y h2 => (colL A.ends).getD i 0 ≠ (colL A.ends).getD ((near A.ends (i : Int)).getD y 0).toNat 0) hJ2 hlk (colR_at hlk (h1 := by omega) (h2 := by omega) hp56)⟩⟩, by first | omega | (dsimp only; omega)⟩
      · have hp45 := of_decide_eq_false hg45
        refine W_exit ?_
        refine thenE_x ?_
        refine thenE_x ?_
        refine blockE_hit ?_
        refine blockE_n ?_
        refine thenE_n ?_
        refine W_region ?_
        refine WL_q rfl (ev_add rfl rfl (by omega)) ?_
        refine WL_q rfl (ev_move rfl) ?_
        refine WL_nil ?_
        refine thenE_n ?_
        exact ⟨i + 1, (Subs.c rfl (Subs.c rfl (Subs.c rfl Subs.n))), (Subs.c (lkI rfl (by omega)) Subs.n), ⟨hRL2, ⟨by omega, dsucc (P := fun v h2 => ColR A.ends (colL A.ends) v) hJ hlt (fun y hy => hJ2 y (by omega) hy)⟩⟩, by first | omega | (dsimp only; omega)⟩
    · have hp38 := of_decide_eq_false hg38
      refine W_exit ?_
      refine thenE_x ?_
      refine thenE_x ?_
      refine blockE_hit ?_
      refine thenE_n ?_
      refine W_seq ?_
      refine W_region ?_
      refine WL_q rfl (ev_move rfl) ?_
      refine WL_q rfl (ev_assign rfl) ?_
      refine WL_q rfl (ev_assign rfl) ?_
      refine WL_nil ?_
      refine thenE_n ?_
      refine W_ret ?_
      refine ret2 rfl rfl rfl ?_
      first | (exact ⟨none, 0, [], _, rfl, .no (fun h => colR_no h hlt hlk (h1 := by omega) (h2 := by omega) hp56), Ints.nil, by simp, hE⟩) | (exact ⟨_, _, colL A.ends, true, by rw [hcl], .yes (colR_all fun v hv => hJ v (by omega) hv) rfl, hIc.mono (Nat.zero_le _) (by omega), by omega, hE⟩)

set_option maxRecDepth 100000 in
theorem sTwoColouring_spec {loA hiA : Nat} (nA : NA) (A : Net) (w : World) (hA : IsNet loA hiA w nA A) (hhiA : hiA ≤ w.heap.size) (hnA : totN A ≤ 1048576) :
    Fn Try.prog 36 #[netV nA A] w (fun o9 w' => ∃ a' c' ys q, o9 = .tuple #[.slice a' ys.length c', VB q] ∧ RV [] (opt (NOk A ∧ ColOk A.ends (colL A.ends)) (colL A.ends)) ys q ∧ Ints 0 w'.heap.size w' a' c' ys ∧ ys.length ≤ 1048576 ∧ Ext w w') := by
  have hqA := totL_len A.ends
  have hmA : totL A.ends + A.ids.length + A.inputs.length ≤ 1048576 := hnA
  have hE := Ext.refl w
  refine Fn_of Try.func36 rfl rfl (by kernel_rfl) rfl ?_
  refine W_seq ?_
  refine W_region ?_
  refine WL_m rfl (ev_box rfl) ?_
  rintro _ w1 ⟨rfl, hN1⟩
  have hz1 := hN1.size
  replace hE := hE.trans hN1.ext
  replace hA := hA.ext hN1.ext
  have hB1 : Blk w1 _ _ [_, _, _] := hN1.blk
  refine WL_q rfl (ev_assign rfl) ?_
  refine WL_q rfl (ev_assign rfl) ?_
  refine WL_nil ?_
  refine thenE_n ?_
  refine W_seq ?_
  refine W_seq ?_
  refine W_region ?_
  refine WL_q rfl (ev_loads st31 sz31 rfl (cellsB hB1) rfl) ?_
  refine WL_m rfl (ev_call rfl (neGood_spec _ A _ hA (by omega) (by omega))) ?_
  rintro _ w5 ⟨b5, rfl, hb5, hE5⟩
  have hz5 := hE5.size
  replace hE := hE.trans hE5
  replace hA := hA.ext hE5
  replace hB1 := hB1.ext hE5
  refine WL_q rfl (ev_not rfl) ?_
  refine WL_nil ?_
  refine thenE_n ?_
  refine W_cond rfl (fun hg6 => ?_) (fun hg6 => ?_)
  · have hg5 := not_true hg6
    have hp5 := ttN hb5 hg5
    refine W_seq ?_
    refine W_region ?_
    refine WL_q rfl (ev_assign rfl) ?_
    refine WL_q rfl (ev_assign rfl) ?_
    refine WL_nil ?_
    refine thenE_n ?_
    refine W_ret ?_
    refine thenE_r ?_
    refine ret2 rfl rfl rfl ?_
    first | (exact ⟨none, 0, [], _, rfl, .no (fun h => hp5 h.1), Ints.nil, by simp, hE⟩) | (exact ⟨_, _, _, _, rfl, two_yes hp5 hr8, hx8, hl8, hE⟩)
  · have hg5 := not_false hg6
    have hp5 := hb5.1 hg5
    refine W_skip ?_
    refine thenE_n ?_
    refine W_seq ?_
    refine W_region ?_
    refine WL_q rfl (ev_loads st31 sz31 rfl (cellsB hB1) rfl) ?_
    refine WL_m rfl (ev_call rfl (meTwo_spec _ A _ hA (by omega) (by omega) (by assumption))) ?_
    rintro _ w8 ⟨a8, c8, y8, q8, rfl, hr8, hx8, hl8, hE8⟩
    have hz8 := hE8.size
    replace hE := hE.trans hE8
    replace hA := hA.ext hE8
    replace hB1 := hB1.ext hE8
    refine WL_q rfl (ev_extract rfl rfl) ?_
    refine WL_q rfl (ev_extract rfl rfl) ?_
    refine WL_q rfl (ev_assign rfl) ?_
    refine WL_q rfl (ev_assign rfl) ?_
    refine WL_nil ?_
    refine thenE_n ?_
    refine W_ret ?_
    refine ret2 rfl rfl rfl ?_
    first | (exact ⟨none, 0, [], _, rfl, .no (fun h => hp5 h.1), Ints.nil, by simp, hE⟩) | (exact ⟨_, _, _, _, rfl, two_yes hp5 hr8, hx8, hl8, hE⟩)

set_option maxRecDepth 100000 in
theorem law_TwoColouring (nA : NA) (A : Net) (w : World) (hA : IsNet 0 w.heap.size w nA A) (hsA : SmN A) :
    Fn Try.prog 10 #[netV nA A] w (fun v w' => v = VB true ∧ Ext w w') := by
  have hE := Ext.refl w
  refine Fn_of Try.func10 rfl rfl (by kernel_rfl) rfl ?_
  refine W_seq ?_
  refine W_region ?_
  refine WL_m rfl (ev_box rfl) ?_
  rintro _ w1 ⟨rfl, hN1⟩
  have hz1 := hN1.size
  replace hE := hE.trans hN1.ext
  replace hA := hA.ext hN1.ext
  have hB1 : Blk w1 _ _ [_, _, _] := hN1.blk
  refine WL_q rfl (ev_assign rfl) ?_
  refine WL_nil ?_
  refine thenE_n ?_
  refine W_seq ?_
  refine W_region ?_
  refine WL_q rfl (ev_assign rfl) ?_
  refine WL_nil ?_
  refine thenE_n ?_
  refine W_seq ?_
  refine W_region ?_
  refine WL_q rfl (ev_loads st25 sz25 rfl (cellsB hB1) rfl) ?_
  refine WL_q rfl (ev_move rfl) ?_
  refine WL_m rfl (ev_call rfl (szNetwork_spec _ A _ _ hA (by omega) hsA)) ?_
  rintro _ w16 ⟨r16, rfl, hE16, hr16⟩
  have hz16 := hE16.size
  replace hE := hE.trans hE16
  replace hA := hA.ext hE16
  replace hB1 := hB1.ext hE16
  refine WL_q rfl (ev_assign rfl) ?_
  refine WL_nil ?_
  refine thenE_n ?_
  refine W_seq ?_
  refine W_seq ?_
  refine W_region ?_
  refine WL_q rfl (ev_move rfl) ?_
  refine WL_q rfl (ev_lss rfl rfl) ?_
  refine WL_nil ?_
  refine thenE_n ?_
  refine W_cond rfl (fun hg18 => ?_) (fun hg18 => ?_)
  · have hp18 := of_decide_eq_true hg18
    refine W_seq ?_
    refine W_region ?_
    refine WL_q rfl (ev_assign rfl) ?_
    refine WL_nil ?_
    refine thenE_n ?_
    refine W_ret ?_
    refine thenE_r ?_
    refine ret1 rfl rfl ?_
    first | (exact ⟨rfl, hE⟩) | (exact (tfX hg18).elim) | (exact (decF hg18).elim) | (exfalso; omega)
  · have hp18 := of_decide_eq_false hg18
    refine W_skip ?_
    refine thenE_n ?_
    refine W_seq ?_
    refine W_region ?_
    refine WL_q rfl (ev_loads st25 sz25 rfl (cellsB hB1) rfl) ?_
    refine WL_m rfl (ev_call rfl (toNetwork_spec _ A _ hA (by omega) (by omega))) ?_
    rintro _ w21 ⟨h21, rfl, hF21, hE21⟩
    have hz21 := hE21.size
    replace hE := hE.trans hE21
    replace hA := hA.ext hE21
    replace hB1 := hB1.ext hE21
    have hN21 := hF21.is
    refine WL_m rfl (ev_call rfl (sTwoColouring_spec _ A _ hN21 (by omega) (by omega))) ?_
    rintro _ w22 ⟨a22, c22, y22, q22, rfl, hr22, hx22, hl22, hE22⟩
    have hz22 := hE22.size
    replace hE := hE.trans hE22
    replace hA := hA.ext hE22
    replace hB1 := hB1.ext hE22
    replace hF21 := hF21.ext hE22
    replace hN21 := hN21.ext hE22
    refine WL_q rfl (ev_move rfl) ?_
    refine WL_q rfl (ev_extract rfl rfl) ?_
    refine WL_q rfl (ev_extract rfl rfl) ?_
    refine WL_q rfl (ev_assign rfl) ?_
    refine WL_q rfl (ev_assign rfl) ?_
    refine WL_nil ?_
    refine thenE_n ?_
    refine W_seq ?_
    refine W_region ?_
    refine WL_q rfl (ev_loads st25 sz25 rfl (cellsB hB1) rfl) ?_
    refine WL_m rfl (ev_call rfl (toNetwork_spec _ A _ hA (by omega) (by omega))) ?_
    rintro _ w26 ⟨h26, rfl, hF26, hE26⟩
    have hz26 := hE26.size
    replace hE := hE.trans hE26
    replace hA := hA.ext hE26
    replace hB1 := hB1.ext hE26
    replace hF21 := hF21.ext hE26
    replace hN21 := hN21.ext hE26
    replace hx22 := hx22.ext hE26
    have hN26 := hF26.is
    refine WL_m rfl (ev_alloc zr31) ?_
    rintro _ w6 ⟨rfl, hN6⟩
    have hz6 := hN6.size
    replace hE := hE.trans hN6.ext
    replace hA := hA.ext hN6.ext
    replace hB1 := hB1.ext hN6.ext
    replace hF21 := hF21.ext hN6.ext
    replace hN21 := hN21.ext hN6.ext
    replace hx22 := hx22.ext hN6.ext
    replace hF26 := hF26.ext hN6.ext
    replace hN26 := hN26.ext hN6.ext
    have hB6 : Blk w6 _ _ [_, _, _] := hN6.blk
    refine WL_s (ev_stores sz31 rfl rfl rfl (by simp [Value.oneCell']) hB6 (by simp)) ?_
    rintro _ w6_3 hS6_3
    have hz6_3 := hS6_3.size
    replace hE := hE.sto hS6_3 (by omega)
    replace hA := hA.sto hS6_3 (by omega)
    replace hB1 := hB1.sto hS6_3 (by omega)
    replace hF21 := hF21.sto hS6_3 (by omega)
    replace hN21 := hN21.sto hS6_3 (by omega)
    replace hx22 := hx22.sto hS6_3 (by omega)
    replace hF26 := hF26.sto hS6_3 (by omega)
    replace hN26 := hN26.sto hS6_3 (by omega)
    replace hB6 : Blk w6_3 _ _ [_, _, _] := hS6_3.blk
    refine WL_nil ?_
    refine thenE_n ?_
    refine W_seq ?_
    refine W_region ?_
    refine WL_q rfl (ev_loads st31 sz31 rfl (cellsB hB6) rfl) ?_
    refine WL_m rfl (ev_call rfl (TwoColouring_spec _ A _ hN26 (by omega) (by omega))) ?_
    rintro _ w29 ⟨a29, c29, y29, q29, rfl, hr29, hO29, hl29, hE29⟩
    have hz29 := hE29.size
    replace hE := hE.trans hE29
    replace hA := hA.ext hE29
    replace hB1 := hB1.ext hE29
    replace hF21 := hF21.ext hE29
    replace hN21 := hN21.ext hE29
    replace hx22 := hx22.ext hE29
    replace hF26 := hF26.ext hE29
    replace hN26 := hN26.ext hE29
    replace hB6 := hB6.ext hE29
    refine WL_q rfl (ev_move rfl) ?_
    refine WL_q rfl (ev_extract rfl rfl) ?_
    refine WL_q rfl (ev_extract rfl rfl) ?_
    refine WL_q rfl (ev_assign rfl) ?_
    refine WL_q rfl (ev_assign rfl) ?_
    refine WL_nil ?_
    refine thenE_n ?_
    refine W_seq ?_
    refine W_seq ?_
    refine W_region ?_
    refine WL_q rfl (ev_move rfl) ?_
    refine WL_q rfl (ev_move rfl) ?_
    refine WL_m rfl (ev_call rfl (eqIntS_spec _ _ _ _ y29 y22 _ (ownt_i hO29) hx22 (by omega))) ?_
    rintro _ w34 ⟨rfl, hE34⟩
    have hz34 := hE34.size
    replace hE := hE.trans hE34
    replace hA := hA.ext hE34
    replace hB1 := hB1.ext hE34
    replace hF21 := hF21.ext hE34
    replace hN21 := hN21.ext hE34
    replace hx22 := hx22.ext hE34
    replace hF26 := hF26.ext hE34
    replace hN26 := hN26.ext hE34
    replace hB6 := hB6.ext hE34
    replace hO29 := hO29.ext hE34
    refine WL_q rfl (ev_not rfl) ?_
    refine WL_q rfl (ev_move rfl) ?_
    refine WL_splitv (t := 36) rfl (fun hg35 => ?_) (fun hg35 => ?_)
    · have hg34 := not_true hg35
      refine WL_no rfl rfl hg35 rfl ?_
      refine WL_no rfl rfl hg35 rfl ?_
      refine WL_no rfl rfl hg35 rfl ?_
      refine WL_q rfl (ev_pick_t rfl hg35 rfl) ?_
      refine WL_nil ?_
      refine thenE_n ?_
      refine W_cond_t rfl ?_
      refine W_seq ?_
      refine W_region ?_
      refine WL_q rfl (ev_assign rfl) ?_
      refine WL_nil ?_
      refine thenE_n ?_
      refine W_ret ?_
      refine thenE_r ?_
      refine ret1 rfl rfl ?_
      first | (exact ⟨rfl, hE⟩) | (exact (bneE hg34 (hr29.det1 hr22)).elim) | (exact absurd (hr29.det1 hr22) hp34) | (exact absurd (hr29.det1 hr22) (of_decide_eq_false hg34)) | (exact (bneE hg34 (hr29.det2 hr22)).elim) | (exact absurd (hr29.det2 hr22) hp34) | (exact absurd (hr29.det2 hr22) (of_decide_eq_false hg34)) | (exact (bneE hg34 (hr29.det3 hr22)).elim) | (exact absurd (hr29.det3 hr22) hp34) | (exact absurd (hr29.det3 hr22) (of_decide_eq_false hg34)) | (exact (tfX hg34).elim) | (exact (decF hg34).elim) | (exfalso; omega)
    · have hg34 := not_false hg35
      refine WL_qg rfl rfl hg35 rfl (ev_move rfl) ?_
      refine WL_qg rfl rfl hg35 rfl (ev_move rfl) ?_
      refine WL_qg rfl rfl hg35 rfl (ev_neq_b Try.underlying4 rfl rfl) ?_
      refine WL_q rfl (ev_pick_f rfl hg35 rfl) ?_
      refine WL_nil ?_
      refine thenE_n ?_
      refine W_cond rfl (fun hg39 => ?_) (fun hg39 => ?_)
      · refine W_seq ?_
        refine W_region ?_
        refine WL_q rfl (ev_assign rfl) ?_
        refine WL_nil ?_
        refine thenE_n ?_
        refine W_ret ?_
        refine thenE_r ?_
        refine ret1 rfl rfl ?_
        first | (exact ⟨rfl, hE⟩) | (exact (bneE hg39 (hr29.det1 hr22)).elim) | (exact absurd (hr29.det1 hr22) hp39) | (exact absurd (hr29.det1 hr22) (of_decide_eq_false hg39)) | (exact (bneE hg39 (hr29.det2 hr22)).elim) | (exact absurd (hr29.det2 hr22) hp39) | (exact absurd (hr29.det2 hr22) (of_decide_eq_false hg39)) | (exact (bneE hg39 (hr29.det3 hr22)).elim) | (exact absurd (hr29.det3 hr22) hp39) | (exact absurd (hr29.det3 hr22) (of_decide_eq_false hg39)) | (exact (tfX hg39).elim) | (exact (decF hg39).elim) | (exfalso; omega)
      · refine W_skip ?_
        refine thenE_n ?_
        refine W_seq ?_
        refine W_seq ?_
        refine W_drawE [(0, true), (1, true), (2, false), (3, false), (4, true)] mixed (by kernel_rfl) rfl (by kernel_rfl) ?_
        intro wd10 hEd10 hzd10
        replace hE := hE.trans hEd10
        replace hA := hA.ext hEd10
        replace hB1 := hB1.ext hEd10
        replace hF21 := hF21.ext hEd10
        replace hN21 := hN21.ext hEd10
        replace hx22 := hx22.ext hEd10
        replace hF26 := hF26.ext hEd10
        replace hN26 := hN26.ext hEd10
        replace hB6 := hB6.ext hEd10
        replace hO29 := hO29.ext hEd10
        have hDd10 := Ext.refl wd10
        refine PW_q rfl rfl (fun wq hq => ev_loads st31 sz31 rfl (cellsB (hq.blk hB6)) rfl) ?_
        refine PW_q rfl rfl (fun wq hq => ev_loads st25 sz25 rfl (cellsB (hq.blk hB1)) rfl) ?_
        refine PW_m rfl rfl (ev_call rfl (toNetwork_spec _ A _ hA (by omega) (by omega))) ?_
        rintro _ w43 ⟨h43, rfl, hF43, hE43⟩
        have hz43 := hE43.size
        replace hE := hE.trans hE43
        replace hDd10 := hDd10.trans hE43
        have hN43 := hF43.is
        refine ⟨hDd10, ?_⟩
        have hA_3 := hA.ext hDd10
        have hB1_3 := hB1.ext hDd10
        have hF21_3 := hF21.ext hDd10
        have hN21_3 := hN21.ext hDd10
        have hx22_3 := hx22.ext hDd10
        have hF26_3 := hF26.ext hDd10
        have hN26_3 := hN26.ext hDd10
        have hB6_3 := hB6.ext hDd10
        have hO29_3 := hO29.ext hDd10
        refine PW_m rfl rfl (ev_call rfl (eqNetwork_spec _ _ A _ hN26_3 hN43 (by omega))) ?_
        rintro _ w44 ⟨rfl, hE44⟩
        have hz44 := hE44.size
        replace hE := hE.trans hE44
        replace hDd10 := hDd10.trans hE44
        replace hF43 := hF43.ext hE44
        replace hN43 := hN43.ext hE44
        refine ⟨hDd10, ?_⟩
        refine PW_q rfl rfl (fun wq hq => ev_not rfl) ?_
        replace hA := hA.ext hDd10
        replace hB1 := hB1.ext hDd10
        replace hF21 := hF21.ext hDd10
        replace hN21 := hN21.ext hDd10
        replace hx22 := hx22.ext hDd10
        replace hF26 := hF26.ext hDd10
        replace hN26 := hN26.ext hDd10
        replace hB6 := hB6.ext hDd10
        replace hO29 := hO29.ext hDd10
        refine PW_nil ?_
        refine thenE_n ?_
        refine W_cond rfl (fun hg45 => ?_) (fun hg45 => ?_)
        · have hg44 := not_true hg45
          refine W_seq ?_
          refine W_region ?_
          refine WL_q rfl (ev_assign rfl) ?_
          refine WL_nil ?_
          refine thenE_n ?_
          refine W_ret ?_
          refine thenE_r ?_
          refine ret1 rfl rfl ?_
          first | (exact ⟨rfl, hE⟩) | (exact (bneE hg44 (hr29.det1 hr22)).elim) | (exact absurd (hr29.det1 hr22) hp44) | (exact absurd (hr29.det1 hr22) (of_decide_eq_false hg44)) | (exact (bneE hg44 (hr29.det2 hr22)).elim) | (exact absurd (hr29.det2 hr22) hp44) | (exact absurd (hr29.det2 hr22) (of_decide_eq_false hg44)) | (exact (bneE hg44 (hr29.det3 hr22)).elim) | (exact absurd (hr29.det3 hr22) hp44) | (exact absurd (hr29.det3 hr22) (of_decide_eq_false hg44)) | (exact (tfX hg44).elim) | (exact (decF hg44).elim) | (exfalso; omega)
        · have hg44 := not_false hg45
          refine W_skip ?_
          refine thenE_n ?_
          refine W_seq ?_
          refine W_region ?_
          refine WL_q rfl (ev_assign rfl) ?_
          refine WL_nil ?_
          refine thenE_n ?_
          refine W_seq ?_
          refine W_region ?_
          refine WL_q rfl (ev_loads st31 sz31 rfl (cellsB hB6) rfl) ?_
          refine WL_q rfl (ev_move rfl) ?_
          refine WL_m rfl (ev_call rfl (markNetwork_spec _ A _ _ hF26 (by omega) (by omega) (by omega))) ?_
          rintro _ w48 ⟨r48, rfl, hr48, hK48⟩
          have hz48 := hK48.size
          replace hE := hE.mrk hK48 (by omega)
          replace hA := hA.mrk hK48 (by omega)
          replace hB1 := hB1.mrk hK48 (by omega)
          replace hF21 := hF21.mrk hK48 (by omega)
          replace hN21 := hN21.mrk hK48 (by omega)
          replace hx22 := hx22.mrk hK48 (by omega)
          replace hB6 := hB6.mrk hK48 (by omega)
          replace hO29 := hO29.mrk hK48 (by omega)
          replace hF43 := hF43.mrk hK48 (by omega)
          replace hN43 := hN43.mrk hK48 (by omega)
          refine WL_q rfl (ev_assign rfl) ?_
          refine WL_nil ?_
          refine thenE_n ?_
          refine W_seq ?_
          refine W_seq ?_
          refine W_region ?_
          refine WL_q rfl (ev_move rfl) ?_
          refine WL_q rfl (ev_lss rfl rfl) ?_
          refine WL_q rfl (ev_move rfl) ?_
          refine WL_splitv (t := 51) rfl (fun hg50 => ?_) (fun hg50 => ?_)
          · have hp50 := of_decide_eq_true hg50
            refine WL_no rfl rfl hg50 rfl ?_
            refine WL_no rfl rfl hg50 rfl ?_
            refine WL_no rfl rfl hg50 rfl ?_
            refine WL_no rfl rfl hg50 rfl ?_
            refine WL_q rfl (ev_pick_t rfl hg50 rfl) ?_
            refine WL_q rfl (ev_move rfl) ?_
            refine WL_no rfl rfl rfl rfl ?_
            refine WL_no rfl rfl rfl rfl ?_
            refine WL_no rfl rfl rfl rfl ?_
            refine WL_q rfl (ev_pick_t rfl rfl rfl) ?_
            refine WL_nil ?_
            refine thenE_n ?_
            refine W_cond_t rfl ?_
            refine W_seq ?_
            refine W_region ?_
            refine WL_q rfl (ev_assign rfl) ?_
            refine WL_nil ?_
            refine thenE_n ?_
            refine W_ret ?_
            refine thenE_r ?_
            refine ret1 rfl rfl ?_
            first | (exact ⟨rfl, hE⟩) | (exact (bneE hg50 (hr29.det1 hr22)).elim) | (exact absurd (hr29.det1 hr22) hp50) | (exact absurd (hr29.det1 hr22) (of_decide_eq_false hg50)) | (exact (bneE hg50 (hr29.det2 hr22)).elim) | (exact absurd (hr29.det2 hr22) hp50) | (exact absurd (hr29.det2 hr22) (of_decide_eq_false hg50)) | (exact (bneE hg50 (hr29.det3 hr22)).elim) | (exact absurd (hr29.det3 hr22) hp50) | (exact absurd (hr29.det3 hr22) (of_decide_eq_false hg50)) | (exact (tfX hg50).elim) | (exact (decF hg50).elim) | (exfalso; omega)
          · have hp50 := of_decide_eq_false hg50
            refine WL_qg rfl rfl hg50 rfl (ev_move rfl) ?_
            refine WL_qg rfl rfl hg50 rfl (ev_move rfl) ?_
            refine WL_mg rfl rfl hg50 rfl (ev_call rfl (eqIntS_spec _ _ _ _ y29 y22 _ (ownt_i hO29) hx22 (by omega))) ?_
            rintro _ w54 ⟨rfl, hE54⟩
            have hz54 := hE54.size
            replace hE := hE.trans hE54
            replace hA := hA.ext hE54
            replace hB1 := hB1.ext hE54
            replace hF21 := hF21.ext hE54
            replace hN21 := hN21.ext hE54
            replace hx22 := hx22.ext hE54
            replace hB6 := hB6.ext hE54
            replace hO29 := hO29.ext hE54
            replace hF43 := hF43.ext hE54
            replace hN43 := hN43.ext hE54
            refine WL_qg rfl rfl hg50 rfl (ev_not rfl) ?_
            refine WL_q rfl (ev_pick_f rfl hg50 rfl) ?_
            refine WL_q rfl (ev_move rfl) ?_
            refine WL_splitv (t := 57) rfl (fun hg55 => ?_) (fun hg55 => ?_)
            · have hg54 := not_true hg55
              refine WL_no rfl rfl hg55 rfl ?_
              refine WL_no rfl rfl hg55 rfl ?_
              refine WL_no rfl rfl hg55 rfl ?_
              refine WL_q rfl (ev_pick_t rfl hg55 rfl) ?_
              refine WL_nil ?_
              refine thenE_n ?_
              refine W_cond_t rfl ?_
              refine W_seq ?_
              refine W_region ?_
              refine WL_q rfl (ev_assign rfl) ?_
              refine WL_nil ?_
              refine thenE_n ?_
              refine W_ret ?_
              refine thenE_r ?_
              refine ret1 rfl rfl ?_
              first | (exact ⟨rfl, hE⟩) | (exact (bneE hg54 (hr29.det1 hr22)).elim) | (exact absurd (hr29.det1 hr22) hp54) | (exact absurd (hr29.det1 hr22) (of_decide_eq_false hg54)) | (exact (bneE hg54 (hr29.det2 hr22)).elim) | (exact absurd (hr29.det2 hr22) hp54) | (exact absurd (hr29.det2 hr22) (of_decide_eq_false hg54)) | (exact (bneE hg54 (hr29.det3 hr22)).elim) | (exact absurd (hr29.det3 hr22) hp54) | (exact absurd (hr29.det3 hr22) (of_decide_eq_false hg54)) | (exact (tfX hg54).elim) | (exact (decF hg54).elim) | (exfalso; omega)
            · have hg54 := not_false hg55
              refine WL_qg rfl rfl hg55 rfl (ev_move rfl) ?_
              refine WL_qg rfl rfl hg55 rfl (ev_move rfl) ?_
              refine WL_qg rfl rfl hg55 rfl (ev_neq_b Try.underlying4 rfl rfl) ?_
              refine WL_q rfl (ev_pick_f rfl hg55 rfl) ?_
              refine WL_nil ?_
              refine thenE_n ?_
              refine W_cond rfl (fun hg60 => ?_) (fun hg60 => ?_)
              · refine W_seq ?_
                refine W_region ?_
                refine WL_q rfl (ev_assign rfl) ?_
                refine WL_nil ?_
                refine thenE_n ?_
                refine W_ret ?_
                refine thenE_r ?_
                refine ret1 rfl rfl ?_
                first | (exact ⟨rfl, hE⟩) | (exact (bneE hg60 (hr29.det1 hr22)).elim) | (exact absurd (hr29.det1 hr22) hp60) | (exact absurd (hr29.det1 hr22) (of_decide_eq_false hg60)) | (exact (bneE hg60 (hr29.det2 hr22)).elim) | (exact absurd (hr29.det2 hr22) hp60) | (exact absurd (hr29.det2 hr22) (of_decide_eq_false hg60)) | (exact (bneE hg60 (hr29.det3 hr22)).elim) | (exact absurd (hr29.det3 hr22) hp60) | (exact absurd (hr29.det3 hr22) (of_decide_eq_false hg60)) | (exact (tfX hg60).elim) | (exact (decF hg60).elim) | (exfalso; omega)
              · refine W_skip ?_
                refine thenE_n ?_
                refine W_seq ?_
                refine W_region ?_
                refine WL_q rfl (ev_assign rfl) ?_
                refine WL_nil ?_
                refine thenE_n ?_
                refine W_seq ?_
                refine W_region ?_
                refine WL_q rfl (ev_move rfl) ?_
                refine WL_q rfl (ev_move rfl) ?_
                refine WL_m rfl (ev_call rfl (markIntS_ownH hO29 (by omega) (by omega))) ?_
                rintro _ w64 ⟨rfl, hO64, hK64⟩
                have hz64 := hK64.size
                have hR64 := hK64
                replace hE := hE.rg hR64 (by omega)
                replace hA := hA.rg hR64 (by omega)
                replace hB1 := hB1.rg hR64 (by omega)
                replace hF21 := hF21.rg hR64 (by omega)
                replace hN21 := hN21.rg hR64 (by omega)
                replace hx22 := hx22.rg hR64 (by omega)
                replace hB6 := hB6.rg hR64 (by omega)
                replace hF43 := hF43.rg hR64 (by omega)
                replace hN43 := hN43.rg hR64 (by omega)
                replace hO29 := hO64
                refine WL_q rfl (ev_assign rfl) ?_
                refine WL_nil ?_
                refine thenE_n ?_
                refine W_seq ?_
                refine W_region ?_
                refine WL_q rfl (ev_assign rfl) ?_
                refine WL_nil ?_
                refine thenE_n ?_
                refine W_seq ?_
                refine W_region ?_
                refine WL_q rfl (ev_move rfl) ?_
                refine WL_q rfl (ev_move rfl) ?_
                refine WL_m rfl (ev_call rfl (heldIntS_spec _ _ (nums 1 y29.length) _ _ (Ints.of_own (nums_len _ _) hO29.1) rfl (by omega) (by omega))) ?_
                rintro _ w67 ⟨rfl, hE67⟩
                have hz67 := hE67.size
                replace hE := hE.trans hE67
                replace hA := hA.ext hE67
                replace hB1 := hB1.ext hE67
                replace hF21 := hF21.ext hE67
                replace hN21 := hN21.ext hE67
                replace hx22 := hx22.ext hE67
                replace hB6 := hB6.ext hE67
                replace hO29 := hO29.ext hE67
                replace hF43 := hF43.ext hE67
                replace hN43 := hN43.ext hE67
                refine WL_q rfl (ev_assign rfl) ?_
                refine WL_nil ?_
                refine thenE_n ?_
                refine W_seq ?_
                refine W_seq ?_
                refine W_region ?_
                refine WL_q rfl (ev_move rfl) ?_
                refine WL_q rfl (ev_lss rfl rfl) ?_
                refine WL_nil ?_
                refine thenE_n ?_
                refine W_cond rfl (fun hg69 => ?_) (fun hg69 => ?_)
                · have hp69 := of_decide_eq_true hg69
                  refine W_seq ?_
                  refine W_region ?_
                  refine WL_q rfl (ev_assign rfl) ?_
                  refine WL_nil ?_
                  refine thenE_n ?_
                  refine W_ret ?_
                  refine thenE_r ?_
                  refine ret1 rfl rfl ?_
                  first | (exact ⟨rfl, hE⟩) | (exact (bneE hg69 (hr29.det1 hr22)).elim) | (exact absurd (hr29.det1 hr22) hp69) | (exact absurd (hr29.det1 hr22) (of_decide_eq_false hg69)) | (exact (bneE hg69 (hr29.det2 hr22)).elim) | (exact absurd (hr29.det2 hr22) hp69) | (exact absurd (hr29.det2 hr22) (of_decide_eq_false hg69)) | (exact (bneE hg69 (hr29.det3 hr22)).elim) | (exact absurd (hr29.det3 hr22) hp69) | (exact absurd (hr29.det3 hr22) (of_decide_eq_false hg69)) | (exact (tfX hg69).elim) | (exact (decF hg69).elim) | (exfalso; omega)
                · have hp69 := of_decide_eq_false hg69
                  refine W_skip ?_
                  refine thenE_n ?_
                  refine W_seq ?_
                  refine W_seq ?_
                  refine W_region ?_
                  refine WL_q rfl (ev_move rfl) ?_
                  refine WL_q rfl (ev_move rfl) ?_
                  refine WL_q rfl (ev_neq rfl rfl) ?_
                  refine WL_nil ?_
                  refine thenE_n ?_
                  refine W_cond rfl (fun hg72 => ?_) (fun hg72 => ?_)
                  · have hp72 := of_decide_eq_true hg72
                    refine W_seq ?_
                    refine W_region ?_
                    refine WL_q rfl (ev_assign rfl) ?_
                    refine WL_nil ?_
                    refine thenE_n ?_
                    refine W_ret ?_
                    refine thenE_r ?_
                    refine ret1 rfl rfl ?_
                    first | (exact ⟨rfl, hE⟩) | (exact (bneE hg72 (hr29.det1 hr22)).elim) | (exact absurd (hr29.det1 hr22) hp72) | (exact absurd (hr29.det1 hr22) (of_decide_eq_false hg72)) | (exact (bneE hg72 (hr29.det2 hr22)).elim) | (exact absurd (hr29.det2 hr22) hp72) | (exact absurd (hr29.det2 hr22) (of_decide_eq_false hg72)) | (exact (bneE hg72 (hr29.det3 hr22)).elim) | (exact absurd (hr29.det3 hr22) hp72) | (exact absurd (hr29.det3 hr22) (of_decide_eq_false hg72)) | (exact (tfX hg72).elim) | (exact (decF hg72).elim) | (exfalso; omega)
                  · have hp72 := of_decide_eq_false hg72
                    refine W_skip ?_
                    refine thenE_n ?_
                    refine W_seq ?_
                    refine W_region ?_
                    refine WL_q rfl (ev_loads st25 sz25 rfl (cellsB hB1) rfl) ?_
                    refine WL_m rfl (ev_call rfl (toNetwork_spec _ A _ hA (by omega) (by omega))) ?_
                    rintro _ w75 ⟨h75, rfl, hF75, hE75⟩
                    have hz75 := hE75.size
                    replace hE := hE.trans hE75
                    replace hA := hA.ext hE75
                    replace hB1 := hB1.ext hE75
                    replace hF21 := hF21.ext hE75
                    replace hN21 := hN21.ext hE75
                    replace hx22 := hx22.ext hE75
                    replace hB6 := hB6.ext hE75
                    replace hO29 := hO29.ext hE75
                    replace hF43 := hF43.ext hE75
                    replace hN43 := hN43.ext hE75
                    have hN75 := hF75.is
                    refine WL_m rfl (ev_call rfl (TwoColouring_spec _ A _ hN75 (by omega) (by omega))) ?_
                    rintro _ w76 ⟨a76, c76, y76, q76, rfl, hr76, hO76, hl76, hE76⟩
                    have hz76 := hE76.size
                    replace hE := hE.trans hE76
                    replace hA := hA.ext hE76
                    replace hB1 := hB1.ext hE76
                    replace hF21 := hF21.ext hE76
                    replace hN21 := hN21.ext hE76
                    replace hx22 := hx22.ext hE76
                    replace hB6 := hB6.ext hE76
                    replace hO29 := hO29.ext hE76
                    replace hF43 := hF43.ext hE76
                    replace hN43 := hN43.ext hE76
                    replace hF75 := hF75.ext hE76
                    replace hN75 := hN75.ext hE76
                    refine WL_q rfl (ev_move rfl) ?_
                    refine WL_q rfl (ev_extract rfl rfl) ?_
                    refine WL_q rfl (ev_extract rfl rfl) ?_
                    refine WL_q rfl (ev_assign rfl) ?_
                    refine WL_q rfl (ev_assign rfl) ?_
                    refine WL_nil ?_
                    refine thenE_n ?_
                    refine W_seq ?_
                    refine W_seq ?_
                    refine W_region ?_
                    refine WL_q rfl (ev_move rfl) ?_
                    refine WL_q rfl (ev_move rfl) ?_
                    refine WL_m rfl (ev_call rfl (eqIntS_spec _ _ _ _ y76 y22 _ (ownt_i hO76) hx22 (by omega))) ?_
                    rintro _ w81 ⟨rfl, hE81⟩
                    have hz81 := hE81.size
                    replace hE := hE.trans hE81
                    replace hA := hA.ext hE81
                    replace hB1 := hB1.ext hE81
                    replace hF21 := hF21.ext hE81
                    replace hN21 := hN21.ext hE81
                    replace hx22 := hx22.ext hE81
                    replace hB6 := hB6.ext hE81
                    replace hO29 := hO29.ext hE81
                    replace hF43 := hF43.ext hE81
                    replace hN43 := hN43.ext hE81
                    replace hF75 := hF75.ext hE81
                    replace hN75 := hN75.ext hE81
                    replace hO76 := hO76.ext hE81
                    refine WL_q rfl (ev_not rfl) ?_
                    refine WL_q rfl (ev_move rfl) ?_
                    refine WL_splitv (t := 83) rfl (fun hg82 => ?_) (fun hg82 => ?_)
                    · have hg81 := not_true hg82
                      refine WL_no rfl rfl hg82 rfl ?_
                      refine WL_no rfl rfl hg82 rfl ?_
                      refine WL_no rfl rfl hg82 rfl ?_
                      refine WL_q rfl (ev_pick_t rfl hg82 rfl) ?_
                      refine WL_nil ?_
                      refine thenE_n ?_
                      refine W_cond_t rfl ?_
                      refine W_seq ?_
                      refine W_region ?_
                      refine WL_q rfl (ev_assign rfl) ?_
                      refine WL_nil ?_
                      refine thenE_n ?_
                      refine W_ret ?_
                      refine thenE_r ?_
                      refine ret1 rfl rfl ?_
                      first | (exact ⟨rfl, hE⟩) | (exact (bneE hg81 (hr76.det1 hr22)).elim) | (exact absurd (hr76.det1 hr22) hp81) | (exact absurd (hr76.det1 hr22) (of_decide_eq_false hg81)) | (exact (bneE hg81 (hr76.det2 hr22)).elim) | (exact absurd (hr76.det2 hr22) hp81) | (exact absurd (hr76.det2 hr22) (of_decide_eq_false hg81)) | (exact (bneE hg81 (hr76.det3 hr22)).elim) | (exact absurd (hr76.det3 hr22) hp81) | (exact absurd (hr76.det3 hr22) (of_decide_eq_false hg81)) | (exact (bneE hg81 (hr29.det1 hr22)).elim) | (exact absurd (hr29.det1 hr22) hp81) | (exact absurd (hr29.det1 hr22) (of_decide_eq_false hg81)) | (exact (bneE hg81 (hr29.det2 hr22)).elim) | (exact absurd (hr29.det2 hr22) hp81) | (exact absurd (hr29.det2 hr22) (of_decide_eq_false hg81)) | (exact (bneE hg81 (hr29.det3 hr22)).elim) | (exact absurd (hr29.det3 hr22) hp81) | (exact absurd (hr29.det3 hr22) (of_decide_eq_false hg81)) | (exact (tfX hg81).elim) | (exact (decF hg81).elim) | (exfalso; omega)
                    · have hg81 := not_false hg82
                      refine WL_qg rfl rfl hg82 rfl (ev_move rfl) ?_
                      refine WL_qg rfl rfl hg82 rfl (ev_move rfl) ?_
                      refine WL_qg rfl rfl hg82 rfl (ev_neq_b Try.underlying4 rfl rfl) ?_
                      refine WL_q rfl (ev_pick_f rfl hg82 rfl) ?_
                      refine WL_nil ?_
                      refine thenE_n ?_
                      refine W_cond rfl (fun hg86 => ?_) (fun hg86 => ?_)
                      · refine W_seq ?_
                        refine W_region ?_
                        refine WL_q rfl (ev_assign rfl) ?_
                        refine WL_nil ?_
                        refine thenE_n ?_
                        refine W_ret ?_
                        refine thenE_r ?_
                        refine ret1 rfl rfl ?_
                        first | (exact ⟨rfl, hE⟩) | (exact (bneE hg86 (hr76.det1 hr22)).elim) | (exact absurd (hr76.det1 hr22) hp86) | (exact absurd (hr76.det1 hr22) (of_decide_eq_false hg86)) | (exact (bneE hg86 (hr76.det2 hr22)).elim) | (exact absurd (hr76.det2 hr22) hp86) | (exact absurd (hr76.det2 hr22) (of_decide_eq_false hg86)) | (exact (bneE hg86 (hr76.det3 hr22)).elim) | (exact absurd (hr76.det3 hr22) hp86) | (exact absurd (hr76.det3 hr22) (of_decide_eq_false hg86)) | (exact (bneE hg86 (hr29.det1 hr22)).elim) | (exact absurd (hr29.det1 hr22) hp86) | (exact absurd (hr29.det1 hr22) (of_decide_eq_false hg86)) | (exact (bneE hg86 (hr29.det2 hr22)).elim) | (exact absurd (hr29.det2 hr22) hp86) | (exact absurd (hr29.det2 hr22) (of_decide_eq_false hg86)) | (exact (bneE hg86 (hr29.det3 hr22)).elim) | (exact absurd (hr29.det3 hr22) hp86) | (exact absurd (hr29.det3 hr22) (of_decide_eq_false hg86)) | (exact (tfX hg86).elim) | (exact (decF hg86).elim) | (exfalso; omega)
                      · refine W_skip ?_
                        refine thenE_n ?_
                        refine W_seq ?_
                        refine W_region ?_
                        refine WL_q rfl (ev_assign rfl) ?_
                        refine WL_nil ?_
                        refine thenE_n ?_
                        refine W_seq ?_
                        refine W_region ?_
                        refine WL_q rfl (ev_move rfl) ?_
                        refine WL_q rfl (ev_move rfl) ?_
                        refine WL_m rfl (ev_call rfl (heldIntS_spec _ _ (nums 1 y29.length) _ _ (Ints.of_own (nums_len _ _) hO29.1) rfl (by omega) (by omega))) ?_
                        rintro _ w90 ⟨rfl, hE90⟩
                        have hz90 := hE90.size
                        replace hE := hE.trans hE90
                        replace hA := hA.ext hE90
                        replace hB1 := hB1.ext hE90
                        replace hF21 := hF21.ext hE90
                        replace hN21 := hN21.ext hE90
                        replace hx22 := hx22.ext hE90
                        replace hB6 := hB6.ext hE90
                        replace hO29 := hO29.ext hE90
                        replace hF43 := hF43.ext hE90
                        replace hN43 := hN43.ext hE90
                        replace hF75 := hF75.ext hE90
                        replace hN75 := hN75.ext hE90
                        replace hO76 := hO76.ext hE90
                        refine WL_q rfl (ev_assign rfl) ?_
                        refine WL_nil ?_
                        refine thenE_n ?_
                        refine W_seq ?_
                        refine W_seq ?_
                        refine W_region ?_
                        refine WL_q rfl (ev_move rfl) ?_
                        refine WL_q rfl (ev_lss rfl rfl) ?_
                        refine WL_nil ?_
                        refine thenE_n ?_
                        refine W_cond rfl (fun hg92 => ?_) (fun hg92 => ?_)
                        · have hp92 := of_decide_eq_true hg92
                          refine W_seq ?_
                          refine W_region ?_
                          refine WL_q rfl (ev_assign rfl) ?_
                          refine WL_nil ?_
                          refine thenE_n ?_
                          refine W_ret ?_
                          refine thenE_r ?_
                          refine ret1 rfl rfl ?_
                          first | (exact ⟨rfl, hE⟩) | (exact (bneE hg92 (hr76.det1 hr22)).elim) | (exact absurd (hr76.det1 hr22) hp92) | (exact absurd (hr76.det1 hr22) (of_decide_eq_false hg92)) | (exact (bneE hg92 (hr76.det2 hr22)).elim) | (exact absurd (hr76.det2 hr22) hp92) | (exact absurd (hr76.det2 hr22) (of_decide_eq_false hg92)) | (exact (bneE hg92 (hr76.det3 hr22)).elim) | (exact absurd (hr76.det3 hr22) hp92) | (exact absurd (hr76.det3 hr22) (of_decide_eq_false hg92)) | (exact (bneE hg92 (hr29.det1 hr22)).elim) | (exact absurd (hr29.det1 hr22) hp92) | (exact absurd (hr29.det1 hr22) (of_decide_eq_false hg92)) | (exact (bneE hg92 (hr29.det2 hr22)).elim) | (exact absurd (hr29.det2 hr22) hp92) | (exact absurd (hr29.det2 hr22) (of_decide_eq_false hg92)) | (exact (bneE hg92 (hr29.det3 hr22)).elim) | (exact absurd (hr29.det3 hr22) hp92) | (exact absurd (hr29.det3 hr22) (of_decide_eq_false hg92)) | (exact (tfX hg92).elim) | (exact (decF hg92).elim) | (exfalso; omega)
                        · have hp92 := of_decide_eq_false hg92
                          refine W_skip ?_
                          refine thenE_n ?_
                          refine W_seq ?_
                          refine W_seq ?_
                          refine W_region ?_
                          refine WL_q rfl (ev_move rfl) ?_
                          refine WL_q rfl (ev_move rfl) ?_
                          refine WL_q rfl (ev_neq rfl rfl) ?_
                          refine WL_nil ?_
                          refine thenE_n ?_
                          refine W_cond rfl (fun hg95 => ?_) (fun hg95 => ?_)
                          · have hp95 := of_decide_eq_true hg95
                            refine W_seq ?_
                            refine W_region ?_
                            refine WL_q rfl (ev_assign rfl) ?_
                            refine WL_nil ?_
                            refine thenE_n ?_
                            refine W_ret ?_
                            refine thenE_r ?_
                            refine ret1 rfl rfl ?_
                            first | (exact ⟨rfl, hE⟩) | (exact (bneE hg95 (hr76.det1 hr22)).elim) | (exact absurd (hr76.det1 hr22) hp95) | (exact absurd (hr76.det1 hr22) (of_decide_eq_false hg95)) | (exact (bneE hg95 (hr76.det2 hr22)).elim) | (exact absurd (hr76.det2 hr22) hp95) | (exact absurd (hr76.det2 hr22) (of_decide_eq_false hg95)) | (exact (bneE hg95 (hr76.det3 hr22)).elim) | (exact absurd (hr76.det3 hr22) hp95) | (exact absurd (hr76.det3 hr22) (of_decide_eq_false hg95)) | (exact (bneE hg95 (hr29.det1 hr22)).elim) | (exact absurd (hr29.det1 hr22) hp95) | (exact absurd (hr29.det1 hr22) (of_decide_eq_false hg95)) | (exact (bneE hg95 (hr29.det2 hr22)).elim) | (exact absurd (hr29.det2 hr22) hp95) | (exact absurd (hr29.det2 hr22) (of_decide_eq_false hg95)) | (exact (bneE hg95 (hr29.det3 hr22)).elim) | (exact absurd (hr29.det3 hr22) hp95) | (exact absurd (hr29.det3 hr22) (of_decide_eq_false hg95)) | (exact (tfX hg95).elim) | (exact (decF hg95).elim) | (exfalso; omega)
                          · have hp95 := of_decide_eq_false hg95
                            refine W_skip ?_
                            refine thenE_n ?_
                            refine W_seq ?_
                            refine W_region ?_
                            refine WL_q rfl (ev_assign rfl) ?_
                            refine WL_nil ?_
                            refine thenE_n ?_
                            refine W_ret ?_
                            refine ret1 rfl rfl ?_
                            first | (exact ⟨rfl, hE⟩) | (exact (bneE hg95 (hr76.det1 hr22)).elim) | (exact absurd (hr76.det1 hr22) hp95) | (exact absurd (hr76.det1 hr22) (of_decide_eq_false hg95)) | (exact (bneE hg95 (hr76.det2 hr22)).elim) | (exact absurd (hr76.det2 hr22) hp95) | (exact absurd (hr76.det2 hr22) (of_decide_eq_false hg95)) | (exact (bneE hg95 (hr76.det3 hr22)).elim) | (exact absurd (hr76.det3 hr22) hp95) | (exact absurd (hr76.det3 hr22) (of_decide_eq_false hg95)) | (exact (bneE hg95 (hr29.det1 hr22)).elim) | (exact absurd (hr29.det1 hr22) hp95) | (exact absurd (hr29.det1 hr22) (of_decide_eq_false hg95)) | (exact (bneE hg95 (hr29.det2 hr22)).elim) | (exact absurd (hr29.det2 hr22) hp95) | (exact absurd (hr29.det2 hr22) (of_decide_eq_false hg95)) | (exact (bneE hg95 (hr29.det3 hr22)).elim) | (exact absurd (hr29.det3 hr22) hp95) | (exact absurd (hr29.det3 hr22) (of_decide_eq_false hg95)) | (exact (tfX hg95).elim) | (exact (decF hg95).elim) | (exfalso; omega)

end Go.Proofs.Ytgnlfhggebijcaa
