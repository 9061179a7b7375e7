/- Contracts of neCut, of meAvoid and of the girth of the reference; the walks of FnExactIsForest and FnExactIsTree. -/
import Derived.Test.YtnngpblegbjfdaaForest1
import Derived.Test.YtnngpblegbjfdaaDrawT
import Derived.Test.YtnngpblegbjfdaaRowsP
namespace Go.Proofs.Ytnngpblegbjfdaa
open Go Go.RowKit

theorem own_snocF {lo : Nat} {w : World} {E : TypeId} {a : Option Addr} {n c : Nat} {xs : List Int} {x : Int} (h : Own lo w E 1 a n c (xs.flatMap intF ++ [VI x])) : Own lo w E 1 a n c ((xs ++ [x]).flatMap intF) := by
  rw [List.flatMap_append]; exact h
theorem own_zaddH {l r p q : Nat} {w : World} {E : TypeId} {sz : Nat} {a : Option Addr} {n c : Nat} {ds : List Value} (h : OwnH l r p q w E sz a (0 + n) c (([] : List Value) ++ ds)) : OwnH l r p q w E sz a n c ds := ⟨own_zadd2 h.1, h.2⟩
theorem OwnH.app {l r p q lo' sz' n' c' : Nat} {w w' : World} {E E' : TypeId} {sz n c : Nat} {a a' : Option Addr} {cs ds : List Value} (h : OwnH l r p q w E sz a n c cs) (k : Apd w w' a') (o : Own lo' w E' sz' a' n' c' ds) (hb : r ≤ lo') : OwnH l r p q w' E sz a n c cs :=
  ⟨h.1.keep k fun x hx => ⟨(h.1.block x hx).2, fun y hy => by have := (h.2 x hx).1; have := (o.block y hy).1; omega⟩, h.2⟩
theorem NOk.ports {A : Net} (h : NOk A) : PortsOk A.ends := fun _ hv _ hi => h.endOk hv hi
/-- How long the rows of new numbers are. -/
def tlk (ends : Ends) (i k : Nat) : List Nat := (List.range ends.length).map fun j => if j < i then (ends.getD j []).length else if j = i then k else 0
theorem tlk_zero (ends : Ends) : tlk ends 0 0 = List.replicate ends.length 0 := by
  refine List.ext_getElem (by simp [tlk]) fun j h1 h2 => ?_
  simp [tlk]
theorem tlk_set {ends : Ends} {i k : Nat} : (tlk ends i k).set i (k + 1) = tlk ends i (k + 1) := by
  refine List.ext_getElem (by simp [tlk]) fun j h1 h2 => ?_
  by_cases hj : i = j
  · subst hj; rw [List.getElem_set_self]; simp [tlk]
  · rw [List.getElem_set_ne hj]; simp only [tlk, List.getElem_map, List.getElem_range]; rw [if_neg (Ne.symm hj), if_neg (Ne.symm hj)]
theorem tlk_next {ends : Ends} {i : Nat} (h : i < ends.length) : tlk ends i ends[i].length = tlk ends (i + 1) 0 := by
  refine List.ext_getElem (by simp [tlk]) fun j h1 h2 => ?_
  simp only [tlk, List.getElem_map, List.getElem_range]
  by_cases h3 : j < i
  · rw [if_pos h3, if_pos (by omega)]
  · rw [if_neg h3]
    by_cases h4 : j = i
    · subst h4; rw [if_pos rfl, if_pos (by omega), getD_eq h]
    · rw [if_neg h4, if_neg (by omega)]; split <;> rfl
theorem tl_len {ends : Ends} {T : List (List Int)} {i k : Nat} (h : T.map List.length = tlk ends i k) : T.length = ends.length := by have := congrArg List.length h; simpa [tlk] using this
theorem tl_at {ends : Ends} {T : List (List Int)} {i k : Nat} (h : T.map List.length = tlk ends i k) (h1 : i < T.length) : T[i].length = k := by
  have h2 : i < (T.map List.length).length := by simpa using h1
  have e : (T.map List.length)[i] = (tlk ends i k)[i]'(by rw [← h]; exact h2) := by simp only [h]
  simpa [tlk] using e
theorem tl_all {ends : Ends} {T : List (List Int)} {j : Nat} (h : T.map List.length = tlk ends ends.length 0) (h1 : j < T.length) (h3 : j < ends.length) : T[j].length = ends[j].length := by
  have h2 : j < (T.map List.length).length := by simpa using h1
  have e : (T.map List.length)[j] = (tlk ends ends.length 0)[j]'(by rw [← h]; exact h2) := by simp only [h]
  simpa [tlk, h3, List.getD] using e
theorem tl_put {ends : Ends} {T : List (List Int)} {i k : Nat} {ys : List Int} (h : T.map List.length = tlk ends i k) (hy : ys.length = k + 1) : (T.set i ys).map List.length = tlk ends i (k + 1) := by rw [List.map_set, h, hy, tlk_set]
/-- The nodes behind the ports that are kept, before port k. -/
def kpN (r : List (Int × Int)) (b : List Bool) (k : Nat) : List Int := ((List.range k).filter fun i => b.getD i false).map fun i => (r.getD i (0, 0)).1
theorem kpN_yes {r : List (Int × Int)} {b : List Bool} {k : Nat} (hr : k < r.length) (hb : k < b.length) (h : b[k] = true) : kpN r b k ++ [r[k].1] = kpN r b (k + 1) := by
  unfold kpN
  have : ([k].filter fun i => b.getD i false) = [k] := List.filter_cons_of_pos (p := fun i => b.getD i false) (by rw [getD_eq hb]; exact h)
  rw [List.range_succ, List.filter_append, List.map_append, this]
  simp only [List.map_cons, List.map_nil, getD_eq hr]
theorem kpN_no {r : List (Int × Int)} {b : List Bool} {k : Nat} (hb : k < b.length) (h : b[k] = false) : kpN r b k = kpN r b (k + 1) := by
  unfold kpN
  have : ([k].filter fun i => b.getD i false) = [] := List.filter_cons_of_neg (p := fun i => b.getD i false) (by rw [getD_eq hb, h]; simp)
  rw [List.range_succ, List.filter_append, List.map_append, this]; simp
theorem kpN_len (r : List (Int × Int)) (b : List Bool) (k : Nat) : (kpN r b k).length ≤ k := by
  unfold kpN; rw [List.length_map]; exact Nat.le_trans (List.length_filter_le _ _) (by simp)
def CutN (ends : Ends) (K : List (List Bool)) (RS : Ends) (i : Nat) : Prop := RS.length = i ∧ ∀ v, v < i → (RS.getD v []).map Prod.fst = kpN (ends.getD v []) (K.getD v []) (ends.getD v []).length
theorem cutN_snoc {ends : Ends} {K : List (List Bool)} {RS : Ends} {i : Nat} {P : List (Int × Int)} (h : CutN ends K RS i) (hp : P.map Prod.fst = kpN (ends.getD i []) (K.getD i []) (ends.getD i []).length) : CutN ends K (RS ++ [P]) (i + 1) := by
  refine ⟨by simp [h.1], fun v hv => ?_⟩
  by_cases e : v = i
  · subst e
    rw [getD_eq (by simp [h.1]), List.getElem_append_right (by rw [h.1]; exact Nat.le_refl _)]
    simpa [h.1] using hp
  · have h1 : v < RS.length := by rw [h.1]; omega
    rw [getD_eq (by simp; omega), List.getElem_append_left h1, ← getD_eq h1 (z := [])]
    exact h.2 v (by omega)
theorem cutN_of {ends : Ends} {K : List (List Bool)} {RS : Ends} (h : CutN ends K RS ends.length) : CutOf ends RS fun v i => (K.getD v []).getD i false :=
  ⟨h.1, fun v hv => by rw [h.2 v hv]; simp only [kpN, getD_eq hv]⟩
theorem cut_tot {ends RS : Ends} {K : List (List Bool)} (h : CutN ends K RS ends.length) (h6 : ∀ r ∈ ends, r.length ≤ 6) : totL RS ≤ ends.length * 7 := by
  have h1 : ∀ r ∈ RS, r.length ≤ 6 := by
    intro r hr
    obtain ⟨v, hv, rfl⟩ := List.mem_iff_getElem.1 hr
    have hv' : v < ends.length := by rw [← h.1]; exact hv
    have e := congrArg List.length (h.2 v hv')
    rw [getD_eq hv, List.length_map] at e
    have := kpN_len (ends.getD v []) (K.getD v []) (ends.getD v []).length
    rw [getD_eq hv'] at this e
    have := h6 _ (List.getElem_mem hv'); omega
  have h2 := h.1
  unfold totL
  have : (RS.map List.length).sum ≤ RS.length * 6 := by
    clear h h2
    induction RS with
    | nil => simp
    | cons x r ih =>
      have := ih fun y hy => h1 y (List.mem_cons_of_mem _ hy)
      have := h1 x (List.mem_cons_self ..)
      simp only [List.map_cons, List.sum_cons, List.length_cons, Nat.add_mul]; omega
  omega

set_option maxHeartbeats 2000000 in
set_option maxRecDepth 100000 in
theorem neCut_spec {loA hiA : Nat} (nA : NA) (A : Net) {lK rK : Nat} (aK : Option Addr) (cK : Nat) (bs : List Nat) (K : List (List Bool)) (w : World) (hA : IsNet loA hiA w nA A) (hhiA : hiA ≤ w.heap.size) (hnA : totN A ≤ 1048576) (hK : BRows lK rK w 73 4 aK cK bs K) (hrK : rK ≤ w.heap.size) (hkA : NOk A) (hKn : K.length = A.ends.length) (hKr : ∀ v (_h : v < A.ends.length) (h2 : v < K.length), K[v].length = A.ends[v].length) :
    Fn Try.prog 52 #[netV nA A, .slice aK A.ends.length cK] w (fun o9 w' => ∃ h' N, o9 = netV h' N ∧ IsNet w.heap.size w'.heap.size w' h' N ∧ CutOf A.ends N.ends (fun v i => (K.getD v []).getD i false) ∧ totN N ≤ 1048576 ∧ Ext w w') := by
  have hqA := totL_len A.ends
  have hmA : totL A.ends + A.ids.length + A.inputs.length ≤ 1048576 := hnA
  have hndA := hkA.nodes
  have hk := hkA.endsOk
  have h6 := hkA.six
  have hidA : A.ids.length ≤ 40 := by rcases hkA.ids with h1 | h1; omega; have := h1.1; omega
  have hinA := hkA.inLen
  obtain ⟨gK, restK, hgK, hgl, hgr, hKo, hKg⟩ := hK.open (by omega)
  subst hgK
  have hE := Ext.refl w
  refine Fn_of Try.func52 rfl rfl (by kernel_rfl) rfl ?_
  refine W_seq ?_
  refine W_region ?_
  refine WL_m rfl (ev_box rfl) ?_
  rintro _ w2 ⟨rfl, hN2⟩
  have hz2 := hN2.size
  replace hE := hE.trans hN2.ext
  replace hA := hA.ext hN2.ext
  replace hK := hK.ext hN2.ext
  replace hKo := hKo.ext hN2.ext
  have hB2 : Blk w2 _ _ [_, _, _] := hN2.blk
  refine WL_m rfl (ev_alloc zr31) ?_
  rintro _ w4 ⟨rfl, hN4⟩
  have hz4 := hN4.size
  replace hE := hE.trans hN4.ext
  replace hA := hA.ext hN4.ext
  replace hK := hK.ext hN4.ext
  replace hKo := hKo.ext hN4.ext
  replace hB2 := hB2.ext hN4.ext
  have hB4 : Blk w4 _ _ [_, _, _] := hN4.blk
  refine WL_nil ?_
  refine thenE_n ?_
  refine W_seq ?_
  refine W_region ?_
  refine WL_q rfl (ev_fieldAddr fo31_0 rfl) ?_
  refine WL_q rfl (ev_load one29 rfl (hB2.cell rfl)) ?_
  refine WL_q rfl (ev_len Try.underlying29 rfl) ?_
  refine WL_m rfl (ev_makeN Try.underlying88 el23 rfl rfl rfl (by omega) (by omega)) ?_
  rintro _ w19 ⟨rfl, hN19⟩
  have hz19 := hN19.size
  replace hE := hE.trans hN19.ext
  replace hA := hA.ext hN19.ext
  replace hK := hK.ext hN19.ext
  replace hKo := hKo.ext hN19.ext
  replace hB2 := hB2.ext hN19.ext
  replace hB4 := hB4.ext hN19.ext
  have hB19 := hN19.blk
  have hR0 := ORows.made (f := intF) (sz := 1) (E := 3) hB19 (Nat.le_refl _) hB19.lt
  refine WL_q rfl (ev_assign rfl) ?_
  refine WL_nil ?_
  refine thenE_n ?_
  refine W_seq ?_
  refine W_seq ?_
  refine W_region ?_
  refine WL_q rfl (ev_fieldAddr fo31_0 rfl) ?_
  refine WL_q rfl (ev_load one29 rfl (hB2.cell rfl)) ?_
  refine WL_q rfl (ev_len Try.underlying29 rfl) ?_
  refine WL_q rfl (ev_move rfl) ?_
  refine WL_nil ?_
  refine thenE_n ?_
  refine W_block ?_
  refine W_loopC (G := Nat × List (List Int)) [(1, _), (2, _), (4, _), (5, _), (21, _), (22, _)] ((Subs.c rfl (Subs.c rfl (Subs.c rfl (Subs.c rfl (Subs.c rfl (Subs.c rfl Subs.n))))))) (fun ⟨i, TT⟩ => [(23, VI (i : Int))]) (fun ⟨i, TT⟩ w' => Lo (w4.heap.size) w19 w' ∧ i ≤ A.ends.length ∧ ORows intF 1 w4.heap.size w'.heap.size w' 3 w4.heap.size TT ∧ TT.map List.length = tlk A.ends i 0) (fun g => A.ends.length - g.1) (0, List.replicate A.ends.length []) ((Subs.c (lkI rfl (by omega)) Subs.n)) (⟨Lo.refl (by omega), ⟨Nat.zero_le _, hR0, by rw [tlk_zero]; simp⟩⟩) ?_
  rintro ⟨i, TT⟩ wL0 ⟨hRL0, hi', hR, hTl⟩
  have hzL0 := hRL0.size
  replace hA := hA.lo hRL0 (by omega)
  replace hK := hK.lo hRL0 (by omega)
  replace hKo := hKo.lo hRL0 (by omega)
  replace hB2 := hB2.lo hRL0 (by omega)
  replace hB4 := hB4.lo hRL0 (by omega)
  replace hE := hE.lo hRL0 (by omega)
  refine W_seq ?_
  refine W_region ?_
  refine WL_q rfl (ev_lss rfl rfl) ?_
  refine WL_nil ?_
  refine thenE_n ?_
  refine W_seq ?_
  refine W_cond rfl (fun hg24 => ?_) (fun hg24 => ?_)
  · have hp24 := of_decide_eq_true hg24
    refine W_skip ?_
    refine thenE_n ?_
    refine W_seq ?_
    refine W_block ?_
    refine W_seq ?_
    refine W_region ?_
    refine WL_q rfl (ev_move rfl) ?_
    have hlt : i < A.ends.length := by omega
    have htl := totL_le hlt
    have h6i := h6 _ (List.getElem_mem hlt)
    have hKi : i < K.length := by omega
    have hbi : i < bs.length := by have := hK.len; omega
    have hKb := (hK.row i hbi hKi).2.2
    have hKl := hKr i hlt hKi
    have hbg := hKg i hbi
    have hbr := (hK.row i hbi hKi)
    have hbr1 := hbr.1
    have hbr2 := hbr.2.1
    have hl26 : i < A.ends.length := by omega
    have ht26 := totL_le hl26
    obtain ⟨a26, c26, hc26, hr26⟩ := hA.ends.row hl26
    refine WL_q rfl (ev_indexAddr Try.underlying29 sz55 rfl rfl (hA.ends.isSome (by omega)) (by omega) (by omega)) ?_
    refine WL_q rfl (ev_load one55 rfl (hc26)) ?_
    refine WL_q rfl (ev_assign rfl) ?_
    refine WL_q rfl (ev_assign rfl) ?_
    refine WL_nil ?_
    refine thenE_n ?_
    refine W_seq ?_
    refine W_region ?_
    refine WL_q rfl (ev_assign rfl) ?_
    refine WL_nil ?_
    refine thenE_n ?_
    refine W_seq ?_
    refine W_region ?_
    refine WL_q rfl (ev_move rfl) ?_
    refine WL_q rfl (ev_len Try.underlying55 rfl) ?_
    refine WL_q rfl (ev_move rfl) ?_
    refine WL_nil ?_
    refine thenE_n ?_
    refine W_block ?_
    refine W_loopC (G := Nat × Int × List (List Int)) [(1, _), (2, _), (4, _), (5, _), (6, _), (21, _), (22, _), (23, _), (29, _)] ((Subs.c rfl (Subs.c rfl (Subs.c rfl (Subs.c rfl (Subs.c rfl (Subs.c rfl (Subs.c rfl (Subs.c rfl (Subs.c rfl Subs.n)))))))))) (fun ⟨k, q, TT2⟩ => [(8, VI q), (30, VI (k : Int))]) (fun ⟨k, q, TT2⟩ w' => Lo (w4.heap.size) wL0 w' ∧ (k ≤ A.ends[i].length ∧ 0 ≤ q ∧ q ≤ (k : Int)) ∧ ORows intF 1 w4.heap.size w'.heap.size w' 3 w4.heap.size TT2 ∧ TT2.map List.length = tlk A.ends i k) (fun g => A.ends[i].length - g.1) (0, 0, TT) ((Subs.c rfl (Subs.c (lkI rfl (by omega)) Subs.n))) (⟨Lo.refl (by omega), ⟨⟨Nat.zero_le _, by omega, by omega⟩, hR, hTl⟩⟩) ?_
    rintro ⟨k, q, TT2⟩ wL2 ⟨hRL2, ⟨hk', hq1, hq2⟩, hR, hTk⟩
    have hzL2 := hRL2.size
    replace hA := hA.lo hRL2 (by omega)
    replace hK := hK.lo hRL2 (by omega)
    replace hKo := hKo.lo hRL2 (by omega)
    replace hB2 := hB2.lo hRL2 (by omega)
    replace hB4 := hB4.lo hRL2 (by omega)
    replace hr26 := hr26.lo hRL2 (by omega)
    replace hKb := hKb.lo hRL2 (by omega)
    replace hE := hE.lo hRL2 (by omega)
    replace hRL0 := hRL0.lo hRL2 (by omega)
    refine W_seq ?_
    refine W_region ?_
    refine WL_q rfl (ev_lss rfl rfl) ?_
    refine WL_nil ?_
    refine thenE_n ?_
    refine W_seq ?_
    refine W_cond rfl (fun hg31 => ?_) (fun hg31 => ?_)
    · have hp31 := of_decide_eq_true hg31
      refine W_skip ?_
      refine thenE_n ?_
      refine W_seq ?_
      refine W_block ?_
      refine W_seq ?_
      refine W_region ?_
      refine WL_q rfl (ev_move rfl) ?_
      refine WL_q rfl (ev_assign rfl) ?_
      refine WL_nil ?_
      refine thenE_n ?_
      refine W_seq ?_
      refine W_region ?_
      refine WL_q rfl (ev_move rfl) ?_
      refine WL_q rfl (ev_move rfl) ?_
      refine WL_q rfl (ev_move rfl) ?_
      refine WL_q rfl (ev_move rfl) ?_
      have hlk : k < A.ends[i].length := by omega
      have hTn := tl_len hTk
      have hti : i < TT2.length := by omega
      have hTi := tl_at hTk hti
      obtain ⟨T_, vs, hlo, hhi9, hBk, hOA⟩ := hR
      have hvl := hOA.len
      have hv3 : i < vs.length := by omega
      have hO := hOA.own _ hv3 hti
      refine WL_q rfl (ev_indexAddr Try.underlying88 sz23 rfl rfl rfl (by omega) (by omega)) ?_
      refine WL_q rfl (ev_load one23 rfl (zip_cell hBk hvl hti)) ?_
      refine WL_q rfl (ev_move rfl) ?_
      refine WL_m rfl (ev_lit1 Try.underlying23 el3 (by decide) (by decide) rfl rfl) ?_
      rintro _ w40 ⟨rfl, hN40⟩
      have hz40 := hN40.size
      replace hE := hE.trans hN40.ext
      replace hRL0 := hRL0.trans hN40.ext
      replace hRL2 := hRL2.trans hN40.ext
      replace hA := hA.ext hN40.ext
      replace hK := hK.ext hN40.ext
      replace hKo := hKo.ext hN40.ext
      replace hB2 := hB2.ext hN40.ext
      replace hB4 := hB4.ext hN40.ext
      replace hr26 := hr26.ext hN40.ext
      replace hKb := hKb.ext hN40.ext
      replace hBk := hBk.ext hN40.ext
      replace hOA := hOA.ext hN40.ext
      replace hO := hO.ext hN40.ext
      have hB40 := hN40.blk
      have hOA0 := hOA
      refine WL_m rfl (ev_append Try.underlying23 el3 rfl (by decide) rfl rfl hO (SAt.of_blk (cs := [_]) (ds := []) hB40) rfl (by simp [Value.oneCell']) (by omega) (by unfold maxLen; omega) (by omega)) ?_
      rintro _ w41 ⟨a41, c41, rfl, hO41, hK41, hQ41⟩
      have hz41 := hK41.size
      replace hE := hE.app hK41 (fun q hq => by have := (hO.block q hq).1; omega)
      replace hRL0 := hRL0.app hK41 (fun q hq => by have := (hO.block q hq).1; omega)
      replace hRL2 := hRL2.app hK41 (fun q hq => by have := (hO.block q hq).1; omega)
      replace hA := hA.app hK41 (hO) (by omega)
      replace hK := hK.app hK41 (hO) (by omega)
      replace hKo := hKo.app hK41 (hO) (by omega)
      replace hB2 := hB2.app hK41 (hO) (by omega)
      replace hB4 := hB4.app hK41 (hO) (by omega)
      replace hr26 := hr26.app hK41 (hO) (by omega)
      replace hKb := hKb.app hK41 (hO) (by omega)
      replace hBk := hBk.app hK41 (hO) (by omega)
      replace hO := hO41
      refine WL_q rfl (ev_indexAddr Try.underlying88 sz23 rfl rfl rfl (by omega) (by omega)) ?_
      refine WL_s (ev_store sz23 rfl rfl rfl hBk (by simp; omega)) ?_
      rintro _ w9_10 hS9_10
      have hz9_10 := hS9_10.size
      replace hE := hE.sto hS9_10 (by omega)
      replace hRL0 := hRL0.sto hS9_10 (by omega)
      replace hRL2 := hRL2.sto hS9_10 (by omega)
      replace hA := hA.sto hS9_10 (by omega)
      replace hK := hK.sto hS9_10 (by omega)
      replace hKo := hKo.sto hS9_10 (by omega)
      replace hB2 := hB2.sto hS9_10 (by omega)
      replace hB4 := hB4.sto hS9_10 (by omega)
      replace hr26 := hr26.sto hS9_10 (by omega)
      replace hKb := hKb.sto hS9_10 (by omega)
      replace hBk := hS9_10.blk
      have hR2 := ORows.put (ys := TT2[i] ++ [q]) hlo hOA0 (by omega) hv3 hK41 (own_snocF hO41) (by simp) hQ41 hS9_10 (by omega) hBk
      refine WL_nil ?_
      refine thenE_n ?_
      refine W_seq ?_
      refine W_region ?_
      refine WL_q rfl (ev_move rfl) ?_
      refine WL_q rfl (ev_move rfl) ?_
      refine WL_q rfl (ev_indexAddr Try.underlying71 sz73 rfl rfl rfl (by omega) (by omega)) ?_
      refine WL_q rfl (ev_load one73 rfl (hKo.cellAt (bval_at hbi hKi) (by simp))) ?_
      refine WL_q rfl (ev_move rfl) ?_
      refine WL_q rfl (ev_indexAddr Try.underlying73 sz4 rfl rfl rfl (by omega) (by omega)) ?_
      refine WL_q rfl (ev_load one4 rfl (bcell hKb (i := k) (by omega) (by simp))) ?_
      refine WL_nil ?_
      refine thenE_n ?_
      refine W_cond rfl (fun hg49 => ?_) (fun hg49 => ?_)
      · refine W_region ?_
        refine WL_q rfl (ev_move rfl) ?_
        refine WL_q rfl (ev_add rfl rfl (by omega)) ?_
        refine WL_q rfl (ev_assign rfl) ?_
        refine WL_nil ?_
        refine blockE_n ?_
        refine thenE_n ?_
        refine W_region ?_
        refine WL_q rfl (ev_add rfl rfl (by omega)) ?_
        refine WL_q rfl (ev_move rfl) ?_
        refine WL_nil ?_
        refine thenE_n ?_
        exact ⟨(k + 1, q + 1, TT2.set i (TT2[i] ++ [q])), (Subs.c rfl (Subs.c rfl (Subs.c rfl (Subs.c rfl (Subs.c rfl (Subs.c rfl (Subs.c rfl (Subs.c rfl (Subs.c rfl Subs.n))))))))), (Subs.c rfl (Subs.c (lkI rfl (by omega)) Subs.n)), ⟨hRL2, ⟨⟨by omega, by omega, by omega⟩, hR2, tl_put hTk (by simp [hTi])⟩⟩, by first | omega | (dsimp only; omega)⟩
      · refine W_skip ?_
        refine blockE_n ?_
        refine thenE_n ?_
        refine W_region ?_
        refine WL_q rfl (ev_add rfl rfl (by omega)) ?_
        refine WL_q rfl (ev_move rfl) ?_
        refine WL_nil ?_
        refine thenE_n ?_
        exact ⟨(k + 1, q, TT2.set i (TT2[i] ++ [q])), (Subs.c rfl (Subs.c rfl (Subs.c rfl (Subs.c rfl (Subs.c rfl (Subs.c rfl (Subs.c rfl (Subs.c rfl (Subs.c rfl Subs.n))))))))), (Subs.c (lkI rfl (by omega)) (Subs.c (lkI rfl (by omega)) Subs.n)), ⟨hRL2, ⟨⟨by omega, by omega, by omega⟩, hR2, tl_put hTk (by simp [hTi])⟩⟩, by first | omega | (dsimp only; omega)⟩
    · have hp31 := of_decide_eq_false hg31
      refine W_exit ?_
      refine thenE_x ?_
      refine thenE_x ?_
      refine blockE_hit ?_
      refine blockE_n ?_
      refine thenE_n ?_
      refine W_region ?_
      refine WL_q rfl (ev_add rfl rfl (by omega)) ?_
      refine WL_q rfl (ev_move rfl) ?_
      refine WL_nil ?_
      refine thenE_n ?_
      have hk9 : k = A.ends[i].length := by omega
      rw [hk9, tlk_next hlt] at hTk
      exact ⟨(i + 1, TT2), (Subs.c rfl (Subs.c rfl (Subs.c rfl (Subs.c rfl (Subs.c rfl (Subs.c rfl Subs.n)))))), (Subs.c (lkI rfl (by omega)) Subs.n), ⟨hRL0, ⟨by omega, hR, hTk⟩⟩, by first | omega | (dsimp only; omega)⟩
  · have hp24 := of_decide_eq_false hg24
    refine W_exit ?_
    refine thenE_x ?_
    refine thenE_x ?_
    refine blockE_hit ?_
    refine thenE_n ?_
    refine W_seq ?_
    refine W_drawT (X := Nat) (fun x => [(10, ptr x 0)]) (fun x w' => ∃ a2 c2 m a3 c3, (wL0.heap.size ≤ m ∧ m ≤ w'.heap.size ∧ wL0.heap.size ≤ x ∧ x < w'.heap.size) ∧ Blk w' x 31 [.slice none 0 0, .slice a2 A.ids.length c2, .slice a3 A.inputs.length c3] ∧ OwnH wL0.heap.size m x (x + 1) w' 3 1 a2 A.ids.length c2 (A.ids.map VI) ∧ OwnH m w'.heap.size x (x + 1) w' 3 1 a3 A.inputs.length c3 (A.inputs.map VI) ∧ Ext wL0 w') wL0.heap.size (by omega) (.q 0 (.q 1 (.q 3 (.q 4 (.b 2 (.b 5 (.q 6 (.a 7 (.a 8 .done))) 7 (.a 5 (.q 6 (.a 8 .done)))) 7 (.a 2 (.a 5 (.q 6 (.a 8 .done))))))))) mixed (by kernel_rfl) rfl (by kernel_rfl) ?_ ?_
    · have hT := Ext.refl wL0
      intro wd14 hEd14 hzd14
      replace hE := hE.trans hEd14
      replace hT := hT.trans hEd14
      replace hA := hA.ext hEd14
      replace hK := hK.ext hEd14
      replace hKo := hKo.ext hEd14
      replace hB2 := hB2.ext hEd14
      replace hB4 := hB4.ext hEd14
      replace hR := hR.ext hEd14
      have hDd14 := (Lo.refl (by omega) : Lo wL0.heap.size wd14 wd14)
      refine PT_q rfl rfl (fun wq hq => ev_fieldAddr fo31_1 rfl) ?_
      refine PT_q rfl rfl (fun wq hq => ev_load one23 rfl ((hB2.lo hq.1 (by omega)).cell rfl)) ?_
      refine PT_q rfl rfl (fun wq hq => ev_fieldAddr fo31_2 rfl) ?_
      refine PT_q rfl rfl (fun wq hq => ev_load one23 rfl ((hB2.lo hq.1 (by omega)).cell rfl)) ?_
      refine PT_b ?_ ?_
      · refine PA_m wL0.heap.size rfl rfl (ev_call rfl (l1Own_own _ _ A.ids _ hA.ids (by omega) (by omega))) ?_
        rintro _ w56 ⟨a56, c56, rfl, hO56, hE56⟩
        have hz56 := hE56.size
        replace hE := hE.trans hE56
        replace hT := hT.trans hE56
        replace hDd14 := hDd14.trans hE56
        replace hA := hA.ext hE56
        replace hK := hK.ext hE56
        replace hKo := hKo.ext hE56
        replace hB2 := hB2.ext hE56
        replace hB4 := hB4.ext hE56
        replace hR := hR.ext hE56
        replace hO56 := hO56.h
        refine ⟨by omega, fun _ hx => ⟨hDd14.lo hx (by omega), trivial⟩, ?_⟩
        have hDd14 := (Lo.refl (by omega) : Lo wL0.heap.size w56 w56)
        refine PT_b ?_ ?_
        · refine PA_m wL0.heap.size rfl rfl (ev_call rfl (l1Own_own _ _ A.inputs _ hA.inputs (by omega) (by omega))) ?_
          rintro _ w59 ⟨a59, c59, rfl, hO59, hE59⟩
          have hz59 := hE59.size
          replace hE := hE.trans hE59
          replace hT := hT.trans hE59
          replace hDd14 := hDd14.trans hE59
          replace hA := hA.ext hE59
          replace hK := hK.ext hE59
          replace hKo := hKo.ext hE59
          replace hB2 := hB2.ext hE59
          replace hB4 := hB4.ext hE59
          replace hR := hR.ext hE59
          replace hO56 := hO56.ext hE59
          replace hO59 := hO59.h
          refine ⟨by omega, fun _ hx => ⟨hDd14.lo hx (by omega), trivial⟩, ?_⟩
          have hDd14 := (Lo.refl (by omega) : Lo wL0.heap.size w59 w59)
          refine PT_q rfl rfl (fun wq hq => ev_buildP2 sn31_3 zr31 rfl rfl rfl rfl rfl rfl) ?_
          refine PT_a ?_
          refine PA_m wL0.heap.size rfl rfl (ev_alloc zr31) ?_
          rintro _ w10 ⟨rfl, hN10⟩
          have hz10 := hN10.size
          replace hE := hE.trans hN10.ext
          replace hT := hT.trans hN10.ext
          replace hDd14 := hDd14.trans hN10.ext
          replace hA := hA.ext hN10.ext
          replace hK := hK.ext hN10.ext
          replace hKo := hKo.ext hN10.ext
          replace hB2 := hB2.ext hN10.ext
          replace hB4 := hB4.ext hN10.ext
          replace hR := hR.ext hN10.ext
          replace hO56 := hO56.ext hN10.ext
          replace hO59 := hO59.ext hN10.ext
          have hB10 : Blk w10 _ _ [_, _, _] := hN10.blk
          refine ⟨by omega, fun _ hx => ⟨hDd14.lo hx (by omega), trivial⟩, ?_⟩
          have hDd14 := (Lo.refl (by omega) : Lo wL0.heap.size w10 w10)
          refine PT_a ?_
          refine PA_s wL0.heap.size rfl (ev_stores sz31 rfl rfl rfl (by simp [Value.oneCell']) hB10 (by simp)) ?_
          rintro _ w14_8 hS14_8
          have hz14_8 := hS14_8.size
          replace hE := hE.sto hS14_8 (by omega)
          replace hT := hT.sto hS14_8 (by omega)
          replace hDd14 := hDd14.sto hS14_8 (by omega)
          replace hA := hA.sto hS14_8 (by omega)
          replace hK := hK.sto hS14_8 (by omega)
          replace hKo := hKo.sto hS14_8 (by omega)
          replace hB2 := hB2.sto hS14_8 (by omega)
          replace hB4 := hB4.sto hS14_8 (by omega)
          replace hR := hR.sto hS14_8 (by omega)
          replace hO56 := hO56.sto hS14_8 (by omega)
          replace hO59 := hO59.sto hS14_8 (by omega)
          replace hB10 : Blk w14_8 _ _ [_, _, _] := hS14_8.blk
          refine ⟨by omega, fun _ hx => ⟨hDd14.lo hx (by omega), trivial⟩, ?_⟩
          have hDd14 := (Lo.refl (by omega) : Lo wL0.heap.size w14_8 w14_8)
          exact PT_nil 8 hB10.num rfl ⟨rfl, trivial⟩ rfl ⟨a56, c56, w56.heap.size, a59, c59, ⟨(by (try dsimp only [Blk.num]); omega), (by (try dsimp only [Blk.num]); omega), (by (try dsimp only [Blk.num]); omega), (by (try dsimp only [Blk.num]); omega)⟩, hB10, hO56.off (by (try dsimp only [Blk.num]); omega) (by (try dsimp only [Blk.num]); omega) (by (try dsimp only [Blk.num]); omega), hO59.off (by (try dsimp only [Blk.num]); omega) (by (try dsimp only [Blk.num]); omega) (by (try dsimp only [Blk.num]); omega), hT⟩
        · refine PA_m wL0.heap.size rfl rfl (ev_alloc zr31) ?_
          rintro _ w10 ⟨rfl, hN10⟩
          have hz10 := hN10.size
          replace hE := hE.trans hN10.ext
          replace hT := hT.trans hN10.ext
          replace hDd14 := hDd14.trans hN10.ext
          replace hA := hA.ext hN10.ext
          replace hK := hK.ext hN10.ext
          replace hKo := hKo.ext hN10.ext
          replace hB2 := hB2.ext hN10.ext
          replace hB4 := hB4.ext hN10.ext
          replace hR := hR.ext hN10.ext
          replace hO56 := hO56.ext hN10.ext
          have hB10 : Blk w10 _ _ [_, _, _] := hN10.blk
          refine ⟨by omega, fun _ hx => ⟨hDd14.lo hx (by omega), trivial⟩, ?_⟩
          have hDd14 := (Lo.refl (by omega) : Lo wL0.heap.size w10 w10)
          refine PT_a ?_
          refine PA_m wL0.heap.size rfl rfl (ev_call rfl (l1Own_own _ _ A.inputs _ hA.inputs (by omega) (by omega))) ?_
          rintro _ w59 ⟨a59, c59, rfl, hO59, hE59⟩
          have hz59 := hE59.size
          replace hE := hE.trans hE59
          replace hT := hT.trans hE59
          replace hDd14 := hDd14.trans hE59
          replace hA := hA.ext hE59
          replace hK := hK.ext hE59
          replace hKo := hKo.ext hE59
          replace hB2 := hB2.ext hE59
          replace hB4 := hB4.ext hE59
          replace hR := hR.ext hE59
          replace hO56 := hO56.ext hE59
          replace hB10 := hB10.ext hE59
          replace hO59 := hO59.h
          refine ⟨by omega, fun _ hx => ⟨hDd14.lo hx (by omega), trivial⟩, ?_⟩
          have hDd14 := (Lo.refl (by omega) : Lo wL0.heap.size w59 w59)
          refine PT_q rfl rfl (fun wq hq => ev_buildP2 sn31_3 zr31 rfl rfl rfl rfl rfl rfl) ?_
          refine PT_a ?_
          refine PA_s wL0.heap.size rfl (ev_stores sz31 rfl rfl rfl (by simp [Value.oneCell']) hB10 (by simp)) ?_
          rintro _ w14_8 hS14_8
          have hz14_8 := hS14_8.size
          replace hE := hE.sto hS14_8 (by omega)
          replace hT := hT.sto hS14_8 (by omega)
          replace hDd14 := hDd14.sto hS14_8 (by omega)
          replace hA := hA.sto hS14_8 (by omega)
          replace hK := hK.sto hS14_8 (by omega)
          replace hKo := hKo.sto hS14_8 (by omega)
          replace hB2 := hB2.sto hS14_8 (by omega)
          replace hB4 := hB4.sto hS14_8 (by omega)
          replace hR := hR.sto hS14_8 (by omega)
          replace hO56 := hO56.sto hS14_8 (by omega)
          replace hO59 := hO59.sto hS14_8 (by omega)
          replace hB10 : Blk w14_8 _ _ [_, _, _] := hS14_8.blk
          refine ⟨by omega, fun _ hx => ⟨hDd14.lo hx (by omega), trivial⟩, ?_⟩
          have hDd14 := (Lo.refl (by omega) : Lo wL0.heap.size w14_8 w14_8)
          exact PT_nil 8 hB10.num rfl ⟨rfl, trivial⟩ rfl ⟨a56, c56, w56.heap.size, a59, c59, ⟨(by (try dsimp only [Blk.num]); omega), (by (try dsimp only [Blk.num]); omega), (by (try dsimp only [Blk.num]); omega), (by (try dsimp only [Blk.num]); omega)⟩, hB10, hO56.off (by (try dsimp only [Blk.num]); omega) (by (try dsimp only [Blk.num]); omega) (by (try dsimp only [Blk.num]); omega), hO59.off (by (try dsimp only [Blk.num]); omega) (by (try dsimp only [Blk.num]); omega) (by (try dsimp only [Blk.num]); omega), hT⟩
      · refine PA_m wL0.heap.size rfl rfl (ev_alloc zr31) ?_
        rintro _ w10 ⟨rfl, hN10⟩
        have hz10 := hN10.size
        replace hE := hE.trans hN10.ext
        replace hT := hT.trans hN10.ext
        replace hDd14 := hDd14.trans hN10.ext
        replace hA := hA.ext hN10.ext
        replace hK := hK.ext hN10.ext
        replace hKo := hKo.ext hN10.ext
        replace hB2 := hB2.ext hN10.ext
        replace hB4 := hB4.ext hN10.ext
        replace hR := hR.ext hN10.ext
        have hB10 : Blk w10 _ _ [_, _, _] := hN10.blk
        refine ⟨by omega, fun _ hx => ⟨hDd14.lo hx (by omega), trivial⟩, ?_⟩
        have hDd14 := (Lo.refl (by omega) : Lo wL0.heap.size w10 w10)
        refine PT_a ?_
        refine PA_m wL0.heap.size rfl rfl (ev_call rfl (l1Own_own _ _ A.ids _ hA.ids (by omega) (by omega))) ?_
        rintro _ w56 ⟨a56, c56, rfl, hO56, hE56⟩
        have hz56 := hE56.size
        replace hE := hE.trans hE56
        replace hT := hT.trans hE56
        replace hDd14 := hDd14.trans hE56
        replace hA := hA.ext hE56
        replace hK := hK.ext hE56
        replace hKo := hKo.ext hE56
        replace hB2 := hB2.ext hE56
        replace hB4 := hB4.ext hE56
        replace hR := hR.ext hE56
        replace hB10 := hB10.ext hE56
        replace hO56 := hO56.h
        refine ⟨by omega, fun _ hx => ⟨hDd14.lo hx (by omega), trivial⟩, ?_⟩
        have hDd14 := (Lo.refl (by omega) : Lo wL0.heap.size w56 w56)
        refine PT_a ?_
        refine PA_m wL0.heap.size rfl rfl (ev_call rfl (l1Own_own _ _ A.inputs _ hA.inputs (by omega) (by omega))) ?_
        rintro _ w59 ⟨a59, c59, rfl, hO59, hE59⟩
        have hz59 := hE59.size
        replace hE := hE.trans hE59
        replace hT := hT.trans hE59
        replace hDd14 := hDd14.trans hE59
        replace hA := hA.ext hE59
        replace hK := hK.ext hE59
        replace hKo := hKo.ext hE59
        replace hB2 := hB2.ext hE59
        replace hB4 := hB4.ext hE59
        replace hR := hR.ext hE59
        replace hB10 := hB10.ext hE59
        replace hO56 := hO56.ext hE59
        replace hO59 := hO59.h
        refine ⟨by omega, fun _ hx => ⟨hDd14.lo hx (by omega), trivial⟩, ?_⟩
        have hDd14 := (Lo.refl (by omega) : Lo wL0.heap.size w59 w59)
        refine PT_q rfl rfl (fun wq hq => ev_buildP2 sn31_3 zr31 rfl rfl rfl rfl rfl rfl) ?_
        refine PT_a ?_
        refine PA_s wL0.heap.size rfl (ev_stores sz31 rfl rfl rfl (by simp [Value.oneCell']) hB10 (by simp)) ?_
        rintro _ w14_8 hS14_8
        have hz14_8 := hS14_8.size
        replace hE := hE.sto hS14_8 (by omega)
        replace hT := hT.sto hS14_8 (by omega)
        replace hDd14 := hDd14.sto hS14_8 (by omega)
        replace hA := hA.sto hS14_8 (by omega)
        replace hK := hK.sto hS14_8 (by omega)
        replace hKo := hKo.sto hS14_8 (by omega)
        replace hB2 := hB2.sto hS14_8 (by omega)
        replace hB4 := hB4.sto hS14_8 (by omega)
        replace hR := hR.sto hS14_8 (by omega)
        replace hO56 := hO56.sto hS14_8 (by omega)
        replace hO59 := hO59.sto hS14_8 (by omega)
        replace hB10 : Blk w14_8 _ _ [_, _, _] := hS14_8.blk
        refine ⟨by omega, fun _ hx => ⟨hDd14.lo hx (by omega), trivial⟩, ?_⟩
        have hDd14 := (Lo.refl (by omega) : Lo wL0.heap.size w14_8 w14_8)
        exact PT_nil 8 hB10.num rfl ⟨rfl, trivial⟩ rfl ⟨a56, c56, w56.heap.size, a59, c59, ⟨(by (try dsimp only [Blk.num]); omega), (by (try dsimp only [Blk.num]); omega), (by (try dsimp only [Blk.num]); omega), (by (try dsimp only [Blk.num]); omega)⟩, hB10, hO56.off (by (try dsimp only [Blk.num]); omega) (by (try dsimp only [Blk.num]); omega) (by (try dsimp only [Blk.num]); omega), hO59.off (by (try dsimp only [Blk.num]); omega) (by (try dsimp only [Blk.num]); omega) (by (try dsimp only [Blk.num]); omega), hT⟩
    rintro b3 wt14 ⟨a2, c2, m, a3, c3, ⟨hx1, hx2, hx3, hx4⟩, hB10, hI, hJ, hT⟩
    dsimp only [List.cons_append, List.nil_append]
    replace hE := hE.trans hT
    replace hA := hA.ext hT
    replace hK := hK.ext hT
    replace hKo := hKo.ext hT
    replace hB2 := hB2.ext hT
    replace hB4 := hB4.ext hT
    replace hR := hR.ext hT
    have hi9 : i = A.ends.length := by omega
    rw [hi9] at hTl
    have hTn := tl_len hTl
    have hTI := hR.is (c := A.ends.length) (by omega)
    refine thenE_n ?_
    refine W_seq ?_
    refine W_seq ?_
    refine W_region ?_
    refine WL_q rfl (ev_fieldAddr fo31_0 rfl) ?_
    refine WL_q rfl (ev_load one29 rfl (hB2.cell rfl)) ?_
    refine WL_q rfl (ev_len Try.underlying29 rfl) ?_
    refine WL_q rfl (ev_move rfl) ?_
    refine WL_nil ?_
    refine thenE_n ?_
    refine W_block ?_
    refine W_loopC (G := Nat × Option Addr × Nat × Ends) [(1, _), (4, _), (5, _), (10, _), (62, _), (63, _)] ((Subs.c rfl (Subs.c rfl (Subs.c rfl (Subs.c rfl (Subs.c rfl (Subs.c rfl Subs.n))))))) (fun ⟨j, a, c, RS⟩ => [(64, VI (j : Int))]) (fun ⟨j, a, c, RS⟩ w' => KX (b3) wt14 w' ∧ j ≤ A.ends.length ∧ Blk w' b3 31 [.slice a RS.length c, .slice a2 A.ids.length c2, .slice a3 A.inputs.length c3] ∧ RowsPF wt14.heap.size w'.heap.size w' 57 55 a c RS ∧ CutN A.ends K RS j) (fun g => A.ends.length - g.1) (0, none, 0, []) ((Subs.c (lkI rfl (by omega)) Subs.n)) (⟨KX.refl _ _, ⟨Nat.zero_le _, hB10, RowsPF.nil, rfl, fun v hv => absurd hv (Nat.not_lt_zero _)⟩⟩) ?_
    rintro ⟨j, a, c, RS⟩ wL4 ⟨hRL4, hj', hB10, hRS, hCN⟩
    have hzL4 := hRL4.size
    replace hA := hA.kx hRL4 (by omega)
    replace hK := hK.kx hRL4 (by omega)
    replace hKo := hKo.kx hRL4 (by omega)
    replace hB2 := hB2.kx hRL4 (by omega)
    replace hB4 := hB4.kx hRL4 (by omega)
    replace hI := hI.kx hRL4 (by omega)
    replace hJ := hJ.kx hRL4 (by omega)
    replace hTI := hTI.kx hRL4 (by omega)
    replace hE := hE.kx hRL4 (by omega)
    refine W_seq ?_
    refine W_region ?_
    refine WL_q rfl (ev_lss rfl rfl) ?_
    refine WL_nil ?_
    refine thenE_n ?_
    refine W_seq ?_
    refine W_cond rfl (fun hg65 => ?_) (fun hg65 => ?_)
    · have hp65 := of_decide_eq_true hg65
      refine W_skip ?_
      refine thenE_n ?_
      refine W_seq ?_
      refine W_block ?_
      refine W_seq ?_
      refine W_region ?_
      refine WL_q rfl (ev_move rfl) ?_
      have hltj : j < A.ends.length := by omega
      have htlj := totL_le hltj
      have h6j := h6 _ (List.getElem_mem hltj)
      have hRl := hCN.1
      have hKj : j < K.length := by omega
      have hbj : j < bs.length := by have := hK.len; omega
      have hKc := (hK.row j hbj hKj).2.2
      have hKm := hKr j hltj hKj
      have hbh := hKg j hbj
      have hbs := (hK.row j hbj hKj)
      have hbs1 := hbs.1
      have hbs2 := hbs.2.1
      have hl67 : j < A.ends.length := by omega
      have ht67 := totL_le hl67
      obtain ⟨a67, c67, hc67, hr67⟩ := hA.ends.row hl67
      refine WL_q rfl (ev_indexAddr Try.underlying29 sz55 rfl rfl (hA.ends.isSome (by omega)) (by omega) (by omega)) ?_
      refine WL_q rfl (ev_load one55 rfl (hc67)) ?_
      refine WL_q rfl (ev_assign rfl) ?_
      refine WL_q rfl (ev_assign rfl) ?_
      refine WL_nil ?_
      refine thenE_n ?_
      refine W_seq ?_
      refine W_region ?_
      refine WL_q rfl (ev_assign rfl) ?_
      refine WL_nil ?_
      refine thenE_n ?_
      refine W_seq ?_
      refine W_seq ?_
      refine W_region ?_
      refine WL_q rfl (ev_move rfl) ?_
      refine WL_q rfl (ev_len Try.underlying55 rfl) ?_
      refine WL_q rfl (ev_move rfl) ?_
      refine WL_nil ?_
      refine thenE_n ?_
      refine W_block ?_
      refine W_loopC (G := Nat × Option Addr × Nat × List (Int × Int)) [(1, _), (4, _), (5, _), (10, _), (11, _), (62, _), (63, _), (64, _), (69, _), (70, _)] ((Subs.c rfl (Subs.c rfl (Subs.c rfl (Subs.c rfl (Subs.c rfl (Subs.c rfl (Subs.c rfl (Subs.c rfl (Subs.c rfl (Subs.c rfl Subs.n))))))))))) (fun ⟨k, a6, c6, P⟩ => [(13, .slice a6 P.length c6), (71, VI (k : Int))]) (fun ⟨k, a6, c6, P⟩ w' => Ext wL4 w' ∧ k ≤ A.ends[j].length ∧ OwnH wL4.heap.size w'.heap.size 0 0 w' 57 2 a6 P.length c6 (pairCells P) ∧ P.map Prod.fst = kpN A.ends[j] K[j] k) (fun g => A.ends[j].length - g.1) (0, none, 0, []) ((Subs.c rfl (Subs.c (lkI rfl (by omega)) Subs.n))) (⟨Ext.refl _, ⟨Nat.zero_le _, OwnH.nil, rfl⟩⟩) ?_
      rintro ⟨k, a6, c6, P⟩ wL6 ⟨hRL6, hk', hO, hPk⟩
      have hzL6 := hRL6.size
      replace hE := hE.trans hRL6
      replace hRL4 := hRL4.trans hRL6
      replace hA := hA.ext hRL6
      replace hK := hK.ext hRL6
      replace hKo := hKo.ext hRL6
      replace hB2 := hB2.ext hRL6
      replace hB4 := hB4.ext hRL6
      replace hI := hI.ext hRL6
      replace hJ := hJ.ext hRL6
      replace hTI := hTI.ext hRL6
      replace hB10 := hB10.ext hRL6
      replace hRS := hRS.ext hRL6
      replace hr67 := hr67.ext hRL6
      replace hKc := hKc.ext hRL6
      refine W_seq ?_
      refine W_region ?_
      refine WL_q rfl (ev_lss rfl rfl) ?_
      refine WL_nil ?_
      refine thenE_n ?_
      refine W_seq ?_
      refine W_cond rfl (fun hg72 => ?_) (fun hg72 => ?_)
      · have hp72 := of_decide_eq_true hg72
        refine W_skip ?_
        refine thenE_n ?_
        refine W_seq ?_
        refine W_block ?_
        refine W_seq ?_
        refine W_region ?_
        refine WL_q rfl (ev_move rfl) ?_
        have hlkj : k < A.ends[j].length := by omega
        have hPl : P.length ≤ k := by have := congrArg List.length hPk; rw [List.length_map] at this; have := kpN_len A.ends[j] K[j] k; omega
        obtain ⟨he1, he2, he3, he4, he5⟩ := hkA.endOk hltj hlkj
        have hTw := tl_all hTl (show A.ends[j][k].1.toNat < TT.length by omega) he2
        refine WL_q rfl (ev_indexAddr Try.underlying55 sz57 rfl rfl (hr67.isSome (by omega)) (by omega) (by omega)) ?_
        refine WL_q rfl (ev_loads st57 sz57 rfl (hr67.cells (i := k) (by omega)) rfl) ?_
        refine WL_m rfl (ev_alloc zr57) ?_
        rintro _ w15 ⟨rfl, hN15⟩
        have hz15 := hN15.size
        replace hE := hE.trans hN15.ext
        replace hRL4 := hRL4.trans hN15.ext
        replace hRL6 := hRL6.trans hN15.ext
        replace hA := hA.ext hN15.ext
        replace hK := hK.ext hN15.ext
        replace hKo := hKo.ext hN15.ext
        replace hB2 := hB2.ext hN15.ext
        replace hB4 := hB4.ext hN15.ext
        replace hI := hI.ext hN15.ext
        replace hJ := hJ.ext hN15.ext
        replace hTI := hTI.ext hN15.ext
        replace hB10 := hB10.ext hN15.ext
        replace hRS := hRS.ext hN15.ext
        replace hr67 := hr67.ext hN15.ext
        replace hKc := hKc.ext hN15.ext
        replace hO := hO.ext hN15.ext
        have hB15 : Blk w15 _ _ [_, _] := hN15.blk
        refine WL_q rfl (ev_assign rfl) ?_
        refine WL_s (ev_stores sz57 rfl rfl rfl (by simp [Value.oneCell']) hB15 (by simp)) ?_
        rintro _ w21_5 hS21_5
        have hz21_5 := hS21_5.size
        replace hE := hE.sto hS21_5 (by omega)
        replace hRL4 := hRL4.sto hS21_5 (by omega)
        replace hRL6 := hRL6.sto hS21_5 (by omega)
        replace hA := hA.sto hS21_5 (by omega)
        replace hK := hK.sto hS21_5 (by omega)
        replace hKo := hKo.sto hS21_5 (by omega)
        replace hB2 := hB2.sto hS21_5 (by omega)
        replace hB4 := hB4.sto hS21_5 (by omega)
        replace hI := hI.sto hS21_5 (by omega)
        replace hJ := hJ.sto hS21_5 (by omega)
        replace hTI := hTI.sto hS21_5 (by omega)
        replace hB10 := hB10.sto hS21_5 (by omega)
        replace hRS := hRS.sto hS21_5 (by omega)
        replace hr67 := hr67.sto hS21_5 (by omega)
        replace hKc := hKc.sto hS21_5 (by omega)
        replace hO := hO.sto hS21_5 (by omega)
        replace hB15 : Blk w21_5 _ _ [_, _] := hS21_5.blk
        refine WL_nil ?_
        refine thenE_n ?_
        refine W_seq ?_
        refine W_region ?_
        refine WL_q rfl (ev_move rfl) ?_
        refine WL_q rfl (ev_move rfl) ?_
        refine WL_q rfl (ev_indexAddr Try.underlying71 sz73 rfl rfl rfl (by omega) (by omega)) ?_
        refine WL_q rfl (ev_load one73 rfl (hKo.cellAt (bval_at hbj hKj) (by simp))) ?_
        refine WL_q rfl (ev_move rfl) ?_
        refine WL_q rfl (ev_indexAddr Try.underlying73 sz4 rfl rfl rfl (by omega) (by omega)) ?_
        refine WL_q rfl (ev_load one4 rfl (bcell hKc (i := k) (by omega) (by simp))) ?_
        refine WL_nil ?_
        refine thenE_n ?_
        refine W_cond rfl (fun hg82 => ?_) (fun hg82 => ?_)
        · refine W_drawR wL4.heap.size wL6.heap.size 0 0 (fun w' => True) [(0, true), (1, true), (2, true), (3, true), (4, true), (5, true), (6, true), (7, true), (8, true), (9, true), (10, true), (11, true), (12, true), (13, false), (14, false), (15, true)] mixed (by kernel_rfl) rfl (by kernel_rfl) (fun _ _ => trivial) ?_
          intro wd23 hEd23 hzd23
          replace hE := hE.trans hEd23
          replace hRL4 := hRL4.trans hEd23
          replace hRL6 := hRL6.trans hEd23
          replace hA := hA.ext hEd23
          replace hK := hK.ext hEd23
          replace hKo := hKo.ext hEd23
          replace hB2 := hB2.ext hEd23
          replace hB4 := hB4.ext hEd23
          replace hI := hI.ext hEd23
          replace hJ := hJ.ext hEd23
          replace hTI := hTI.ext hEd23
          replace hB10 := hB10.ext hEd23
          replace hRS := hRS.ext hEd23
          replace hr67 := hr67.ext hEd23
          replace hKc := hKc.ext hEd23
          replace hO := hO.ext hEd23
          replace hB15 := hB15.ext hEd23
          have hDd23 := (Rg.refl : Rg wL4.heap.size wL6.heap.size 0 0 wd23 wd23)
          refine PW_q rfl rfl (fun wq hq => ev_move rfl) ?_
          refine PW_q rfl rfl (fun wq hq => ev_fieldAddr fo57_0 rfl) ?_
          refine PW_q rfl rfl (fun wq hq => ev_load one3 rfl ((hB15.rg hq.1 (by omega)).cell rfl)) ?_
          refine PW_q rfl rfl (fun wq hq => ev_move rfl) ?_
          refine PW_q rfl rfl (fun wq hq => ev_fieldAddr fo57_0 rfl) ?_
          refine PW_q rfl rfl (fun wq hq => ev_load one3 rfl ((hB15.rg hq.1 (by omega)).cell rfl)) ?_
          have hl89 : A.ends[j][k].1.toNat < TT.length := by omega
          have ht89 := totL_le hl89
          obtain ⟨a89, c89, hc89, hr89⟩ := hTI.row hl89
          refine PW_q rfl rfl (fun wq hq => ev_indexAddr Try.underlying88 sz23 rfl rfl (hTI.isSome (by omega)) (by omega) (by omega)) ?_
          refine PW_q rfl rfl (fun wq hq => ev_load one23 rfl (hq.1.cell' hc89 (by have := hTI.rng (Nat.lt_of_le_of_lt (Nat.zero_le _) hl89); omega))) ?_
          refine PW_q rfl rfl (fun wq hq => ev_fieldAddr fo57_1 rfl) ?_
          refine PW_q rfl rfl (fun wq hq => ev_load one3 rfl ((hB15.rg hq.1 (by omega)).cell rfl)) ?_
          refine PW_q rfl rfl (fun wq hq => ev_indexAddr Try.underlying23 sz3 rfl rfl (hr89.isSome (by omega)) (by omega) (by omega)) ?_
          refine PW_q rfl rfl (fun wq hq => ev_load one3 rfl ((hr89.rg hq.1 (by omega)).cellJ (i := A.ends[j][k].2.toNat) (j := A.ends[j][k].2.toNat) (by omega) (by omega))) ?_
          refine PW_q rfl rfl (fun wq hq => ev_build2 sn57_2 rfl rfl rfl rfl) ?_
          refine PW_m rfl rfl (ev_lit1 Try.underlying55 el57 (by decide) (by decide) rfl rfl) ?_
          rintro _ w96 ⟨rfl, hN96⟩
          have hz96 := hN96.size
          replace hE := hE.trans hN96.ext
          replace hRL4 := hRL4.trans hN96.ext
          replace hRL6 := hRL6.trans hN96.ext
          replace hDd23 := hDd23.trans hN96.ext
          replace hO := hO.ext hN96.ext
          have hB96 := hN96.blk
          refine ⟨⟨hDd23, trivial⟩, ?_⟩
          have hA_14 := hA.rg hDd23 (by omega)
          have hK_14 := hK.rg hDd23 (by omega)
          have hKo_14 := hKo.rg hDd23 (by omega)
          have hB2_14 := hB2.rg hDd23 (by omega)
          have hB4_14 := hB4.rg hDd23 (by omega)
          have hI_14 := hI.rg hDd23 (by omega)
          have hJ_14 := hJ.rg hDd23 (by omega)
          have hTI_14 := hTI.rg hDd23 (by omega)
          have hB10_14 := hB10.rg hDd23 (by omega)
          have hRS_14 := hRS.rg hDd23 (by omega)
          have hr67_14 := hr67.rg hDd23 (by omega)
          have hKc_14 := hKc.rg hDd23 (by omega)
          have hB15_14 := hB15.rg hDd23 (by omega)
          have hr89_14 := hr89.rg hDd23 (by omega)
          refine PW_m rfl rfl (ev_appendT Try.underlying55 el57 rfl (by decide) rfl rfl hO (SAt.of_blk (cs := [_, _]) (ds := []) hB96) rfl (by simp [Value.oneCell']) (by omega) (by unfold maxLen; omega) (by omega)) ?_
          rintro _ w97 ⟨a97, c97, rfl, hO97, hK97, hQ97⟩
          have hz97 := hK97.size
          replace hE := hE.rg hK97 (by omega)
          replace hRL4 := hRL4.rg hK97 (by omega)
          replace hRL6 := hRL6.rg hK97 (by omega)
          replace hDd23 := hDd23.rg hK97 (by omega)
          replace hB96 := hB96.rg hK97 (by omega)
          replace hO := hO97
          replace hO := ownt_snocP hO
          refine ⟨⟨hDd23, trivial⟩, ?_⟩
          refine PW_q rfl rfl (fun wq hq => ev_assign rfl) ?_
          replace hA := hA.rg hDd23 (by omega)
          replace hK := hK.rg hDd23 (by omega)
          replace hKo := hKo.rg hDd23 (by omega)
          replace hB2 := hB2.rg hDd23 (by omega)
          replace hB4 := hB4.rg hDd23 (by omega)
          replace hI := hI.rg hDd23 (by omega)
          replace hJ := hJ.rg hDd23 (by omega)
          replace hTI := hTI.rg hDd23 (by omega)
          replace hB10 := hB10.rg hDd23 (by omega)
          replace hRS := hRS.rg hDd23 (by omega)
          replace hr67 := hr67.rg hDd23 (by omega)
          replace hKc := hKc.rg hDd23 (by omega)
          replace hB15 := hB15.rg hDd23 (by omega)
          replace hr89 := hr89.rg hDd23 (by omega)
          refine PW_nil ?_
          refine blockE_n ?_
          refine thenE_n ?_
          refine W_region ?_
          refine WL_q rfl (ev_add rfl rfl (by omega)) ?_
          refine WL_q rfl (ev_move rfl) ?_
          refine WL_nil ?_
          refine thenE_n ?_
          exact ⟨(k + 1, a97, c97, P ++ [(A.ends[j][k].1, TT[A.ends[j][k].1.toNat][A.ends[j][k].2.toNat])]), (Subs.c rfl (Subs.c rfl (Subs.c rfl (Subs.c rfl (Subs.c rfl (Subs.c rfl (Subs.c rfl (Subs.c rfl (Subs.c rfl (Subs.c rfl Subs.n)))))))))), (Subs.c (lkS rfl (by simp)) (Subs.c (lkI rfl (by omega)) Subs.n)), ⟨hRL6, ⟨by omega, (ownt_toP hO rfl (by simp)).up (Nat.le_refl _) (by omega), by rw [List.map_append, hPk]; exact kpN_yes hlkj (by omega) hg82⟩⟩, by first | omega | (dsimp only; omega)⟩
        · refine W_skip ?_
          refine blockE_n ?_
          refine thenE_n ?_
          refine W_region ?_
          refine WL_q rfl (ev_add rfl rfl (by omega)) ?_
          refine WL_q rfl (ev_move rfl) ?_
          refine WL_nil ?_
          refine thenE_n ?_
          exact ⟨(k + 1, a6, c6, P), (Subs.c rfl (Subs.c rfl (Subs.c rfl (Subs.c rfl (Subs.c rfl (Subs.c rfl (Subs.c rfl (Subs.c rfl (Subs.c rfl (Subs.c rfl Subs.n)))))))))), (Subs.c rfl (Subs.c (lkI rfl (by omega)) Subs.n)), ⟨hRL6, ⟨by omega, hO.up (Nat.le_refl _) (by omega), hPk.trans (kpN_no (by omega) hg82)⟩⟩, by first | omega | (dsimp only; omega)⟩
      · have hp72 := of_decide_eq_false hg72
        refine W_exit ?_
        refine thenE_x ?_
        refine thenE_x ?_
        refine blockE_hit ?_
        refine thenE_n ?_
        refine W_region ?_
        refine WL_q rfl (ev_fieldAddr fo31_0 rfl) ?_
        refine WL_q rfl (ev_load one29 rfl (hB10.cell rfl)) ?_
        refine WL_q rfl (ev_move rfl) ?_
        refine WL_m rfl (ev_lit1 Try.underlying29 el55 (by decide) (by decide) rfl rfl) ?_
        rintro _ w102 ⟨rfl, hN102⟩
        have hz102 := hN102.size
        replace hE := hE.trans hN102.ext
        replace hRL4 := hRL4.trans hN102.ext
        replace hA := hA.ext hN102.ext
        replace hK := hK.ext hN102.ext
        replace hKo := hKo.ext hN102.ext
        replace hB2 := hB2.ext hN102.ext
        replace hB4 := hB4.ext hN102.ext
        replace hI := hI.ext hN102.ext
        replace hJ := hJ.ext hN102.ext
        replace hTI := hTI.ext hN102.ext
        replace hB10 := hB10.ext hN102.ext
        replace hRS := hRS.ext hN102.ext
        replace hr67 := hr67.ext hN102.ext
        replace hKc := hKc.ext hN102.ext
        replace hO := hO.ext hN102.ext
        have hB102 := hN102.blk
        obtain ⟨vs103, hA103⟩ := hRS
        have hP103 := hA103.out
        refine WL_m rfl (ev_append Try.underlying29 el55 rfl (by decide) rfl rfl hP103 (SAt.of_blk (cs := [_]) (ds := []) hB102) rfl (by simp [Value.oneCell']) (by omega) (by unfold maxLen; omega) (by omega)) ?_
        rintro _ w103 ⟨a103, c103, rfl, hO103, hK103, hQ103⟩
        have hz103 := hK103.size
        replace hE := hE.app hK103 (fun q hq => by have h1 := (hP103.block q hq).1; have h2 := hA103.otop q hq; omega)
        replace hRL4 := hRL4.app hK103 (fun q hq => by have h1 := (hP103.block q hq).1; have h2 := hA103.otop q hq; omega)
        replace hA := hA.app hK103 (hP103) (by omega)
        replace hK := hK.app hK103 (hP103) (by omega)
        replace hKo := hKo.app hK103 (hP103) (by omega)
        replace hB2 := hB2.app hK103 (hP103) (by omega)
        replace hB4 := hB4.app hK103 (hP103) (by omega)
        replace hI := hI.app hK103 (hP103) (by omega)
        replace hJ := hJ.app hK103 (hP103) (by omega)
        replace hTI := hTI.app hK103 (hP103) (by omega)
        replace hB10 := hB10.app hK103 (hP103) (by omega)
        replace hr67 := hr67.app hK103 (hP103) (by omega)
        replace hKc := hKc.app hK103 (hP103) (by omega)
        have hP103 := hO103
        have hRS := rowspf_snoc hA103 hO.1 (by omega) (by omega) hK103 hP103 rfl hQ103 (by omega)
        refine WL_q rfl (ev_fieldAddr fo31_0 rfl) ?_
        refine WL_s (ev_store sz29 rfl rfl rfl hB10 (by simp)) ?_
        rintro _ w25_6 hS25_6
        have hz25_6 := hS25_6.size
        replace hE := hE.sto hS25_6 (by omega)
        replace hRL4 := hRL4.sto hS25_6 (by omega)
        replace hA := hA.sto hS25_6 (by omega)
        replace hK := hK.sto hS25_6 (by omega)
        replace hKo := hKo.sto hS25_6 (by omega)
        replace hB2 := hB2.sto hS25_6 (by omega)
        replace hB4 := hB4.sto hS25_6 (by omega)
        replace hI := hI.sto hS25_6 (by omega)
        replace hJ := hJ.sto hS25_6 (by omega)
        replace hTI := hTI.sto hS25_6 (by omega)
        replace hr67 := hr67.sto hS25_6 (by omega)
        replace hKc := hKc.sto hS25_6 (by omega)
        replace hRS := hRS.sto hS25_6 (by omega)
        replace hB10 : Blk w25_6 _ _ [_, _, _] := hS25_6.blk
        refine WL_nil ?_
        refine blockE_n ?_
        refine thenE_n ?_
        refine W_region ?_
        refine WL_q rfl (ev_add rfl rfl (by omega)) ?_
        refine WL_q rfl (ev_move rfl) ?_
        refine WL_nil ?_
        refine thenE_n ?_
        have hk9 : k = A.ends[j].length := by omega
        rw [hk9] at hPk
        rw [show RS.length + 1 = (RS ++ [P]).length by simp] at hB10
        exact ⟨(j + 1, a103, c103, RS ++ [P]), (Subs.c rfl (Subs.c rfl (Subs.c rfl (Subs.c rfl (Subs.c rfl (Subs.c rfl Subs.n)))))), (Subs.c (lkI rfl (by omega)) Subs.n), ⟨hRL4, ⟨by omega, hB10, hRS.up (by omega), cutN_snoc hCN (by rw [getD_eq hltj, getD_eq hKj]; exact hPk)⟩⟩, by first | omega | (dsimp only; omega)⟩
    · have hp65 := of_decide_eq_false hg65
      refine W_exit ?_
      refine thenE_x ?_
      refine thenE_x ?_
      refine blockE_hit ?_
      refine thenE_n ?_
      refine W_seq ?_
      refine W_region ?_
      refine WL_q rfl (ev_loads st31 sz31 rfl (cellsB hB10) rfl) ?_
      refine WL_s (ev_stores sz31 rfl rfl rfl (by simp [Value.oneCell']) hB4 (by simp)) ?_
      rintro _ w27_1 hS27_1
      have hz27_1 := hS27_1.size
      replace hE := hE.sto hS27_1 (by omega)
      replace hA := hA.sto hS27_1 (by omega)
      replace hK := hK.sto hS27_1 (by omega)
      replace hKo := hKo.sto hS27_1 (by omega)
      replace hB2 := hB2.sto hS27_1 (by omega)
      replace hI := hI.sto hS27_1 (by omega)
      replace hJ := hJ.sto hS27_1 (by omega)
      replace hTI := hTI.sto hS27_1 (by omega)
      replace hB10 := hB10.sto hS27_1 (by omega)
      replace hRS := hRS.sto hS27_1 (by omega)
      replace hB4 : Blk w27_1 _ _ [_, _, _] := hS27_1.blk
      refine WL_nil ?_
      refine thenE_n ?_
      refine W_ret ?_
      refine retc rfl rfl st31 sz31 (cellsB hB4) rfl ?_
      have hj9 : j = A.ends.length := by omega
      subst hj9
      have hct := cut_tot hCN h6
      exact ⟨⟨a, c, a2, c2, a3, c3⟩, ⟨RS, A.ids, A.inputs⟩, rfl, ⟨hRS.is.mono (by omega) (by omega), (ownt_is hI).mono (by omega) (by omega), (ownt_is hJ).mono (by omega) (by omega)⟩, cutN_of hCN, by show totL RS + A.ids.length + A.inputs.length ≤ 1048576; omega, hE⟩

end Go.Proofs.Ytnngpblegbjfdaa
