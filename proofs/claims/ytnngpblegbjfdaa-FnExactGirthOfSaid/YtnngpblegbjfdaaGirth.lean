/- The walk of FnExactGirthOf. -/
import Derived.Test.YtnngpblegbjfdaaForest3
import Derived.Test.YtnngpblegbjfdaaKeys
import Derived.Test.YtnngpblegbjfdaaNetAcc
import Derived.Test.YtnngpblegbjfdaaDrawV
namespace Go.Proofs.Ytnngpblegbjfdaa
open Go Go.RowKit

theorem laidOutP : laidOutB Try.prog = true := by kernel_rfl
theorem plaw : Maps.Keyed Try.prog 57 := Maps.Keyed.of_law (deep_law_gate laidOutP (of_decide_eq_true (by kernel_rfl)) (of_decide_eq_true (by kernel_rfl)) (by kernel_rfl) (by kernel_rfl))
theorem pgood {p : Int × Int} (h1 : I64 p.1) (h2 : I64 p.2) : GoodK Try.prog 57 (VPair p) := goodK_pair (by kernel_rfl) h1 h2
/-- The numbers below n. -/
def idl (n : Nat) : List Int := (List.range n).map fun i : Nat => (i : Int)
theorem idl_len (n : Nat) : (idl n).length = n := by simp [idl]
theorem idl_at {n i : Nat} (h : i < (idl n).length) : (idl n)[i] = (i : Int) := by simp [idl]
def fz (n i : Nat) : List Int := (List.range n).map fun k : Nat => if k < i then (k : Int) else 0
theorem fz_len (n i : Nat) : (fz n i).length = n := by simp [fz]
theorem fz_zero (n : Nat) : fz n 0 = List.replicate n 0 := by
  refine List.ext_getElem (by simp [fz]) fun i h1 h2 => ?_
  simp [fz]
theorem fz_set {n i : Nat} (h : i < n) : (fz n i).set i (i : Int) = fz n (i + 1) := by
  refine List.ext_getElem (by simp [fz]) fun k h1 h2 => ?_
  by_cases e : i = k
  · subst e; rw [List.getElem_set_self]; simp [fz]
  · rw [List.getElem_set_ne e]
    simp only [fz, List.getElem_map, List.getElem_range]
    have : k < i ↔ k < i + 1 := by omega
    simp only [this]
theorem fz_full (n : Nat) : fz n n = idl n := by
  refine List.ext_getElem (by simp [fz, idl]) fun k h1 h2 => ?_
  have : k < n := by simpa [idl] using h2
  simp [fz, idl, this]
/-- How many of the first m ports of node v are kept. -/
def pcn (K : Nat → Nat → Bool) (v m : Nat) : Nat := ((List.range m).filter (K v)).length
theorem pcn_yes {K : Nat → Nat → Bool} {v m : Nat} (h : K v m = true) : pcn K v (m + 1) = pcn K v m + 1 := by simp [pcn, List.range_succ, h]
theorem pcn_no {K : Nat → Nat → Bool} {v m : Nat} (h : K v m = false) : pcn K v (m + 1) = pcn K v m := by simp [pcn, List.range_succ, h]
theorem pcn_le (K : Nat → Nat → Bool) (v m : Nat) : pcn K v m ≤ m := by unfold pcn; exact Nat.le_trans (List.length_filter_le _ _) (by simp)
def pkR (K : Nat → Nat → Bool) (v m : Nat) : List ((Int × Int) × (Int × Int)) := ((List.range m).filter (K v)).map fun i : Nat => (((v : Int), (i : Int)), ((v : Int), (pcn K v i : Int)))
def pkN (ends : Ends) (K : Nat → Nat → Bool) (n : Nat) : List ((Int × Int) × (Int × Int)) := ((List.range n).map fun v => pkR K v (ends.getD v []).length).flatten
theorem pkR_zero {K : Nat → Nat → Bool} {v : Nat} : pkR K v 0 = [] := by simp [pkR]
theorem pkR_yes {K : Nat → Nat → Bool} {v m : Nat} (h : K v m = true) : pkR K v m ++ [(((v : Int), (m : Int)), ((v : Int), (pcn K v m : Int)))] = pkR K v (m + 1) := by simp [pkR, List.range_succ, h]
theorem pkR_no {K : Nat → Nat → Bool} {v m : Nat} (h : K v m = false) : pkR K v m = pkR K v (m + 1) := by simp [pkR, List.range_succ, h]
theorem pkN_next {ends : Ends} {K : Nat → Nat → Bool} {v : Nat} (h : v < ends.length) : pkN ends K v ++ pkR K v ends[v].length = pkN ends K (v + 1) := by unfold pkN; rw [List.range_succ, List.map_append, List.flatten_append, List.map_singleton, getD_eq h]; simp
theorem pkN_zero {ends : Ends} {K : Nat → Nat → Bool} : pkN ends K 0 = [] := rfl
theorem pk_new {ends : Ends} {K : Nat → Nat → Bool} {v m : Nat} : ((v : Int), (m : Int)) ∉ (pkN ends K v ++ pkR K v m).map Prod.fst := by
  intro h
  obtain ⟨p, hp, e⟩ := List.mem_map.1 h
  rcases List.mem_append.1 hp with hp | hp
  · obtain ⟨r, hr, hp⟩ := List.mem_flatten.1 hp
    obtain ⟨u, hu, rfl⟩ := List.mem_map.1 hr
    obtain ⟨i, _, rfl⟩ := List.mem_map.1 hp
    have := List.mem_range.1 hu
    have e1 := congrArg Prod.fst e
    simp only at e1
    omega
  · obtain ⟨i, hi, rfl⟩ := List.mem_map.1 hp
    have := List.mem_range.1 (List.mem_filter.1 hi).1
    have e1 := congrArg Prod.snd e
    simp only at e1
    omega
theorem pk_look {ends : Ends} {K : Nat → Nat → Bool} {n v i : Nat} (hn : ((pkN ends K n).map Prod.fst).Nodup) (hv : v < n) (hi : i < (ends.getD v []).length) (h : K v i = true) : (alook (pkN ends K n) ((v : Int), (i : Int))).getD (0, 0) = ((v : Int), (pcn K v i : Int)) := by
  have hm : (((v : Int), (i : Int)), ((v : Int), (pcn K v i : Int))) ∈ pkN ends K n := List.mem_flatten.2 ⟨_, List.mem_map.2 ⟨v, List.mem_range.2 hv, rfl⟩, List.mem_map.2 ⟨i, List.mem_filter.2 ⟨List.mem_range.2 hi, h⟩, rfl⟩⟩
  rw [alook_mem hn hm]; rfl
theorem pk_lookE {ends : Ends} {K : Nat → Nat → Bool} {n : Nat} {e : Int × Int} (hn : ((pkN ends K n).map Prod.fst).Nodup) (h1 : 0 ≤ e.1) (h2 : e.1.toNat < n) (h3 : 0 ≤ e.2) (h4 : e.2.toNat < (ends.getD e.1.toNat []).length) (h : K e.1.toNat e.2.toNat = true) : (alook (pkN ends K n) e).getD (0, 0) = (e.1, (pcn K e.1.toNat e.2.toNat : Int)) := by
  have := pk_look hn h2 h4 h
  rwa [Int.toNat_of_nonneg h1, Int.toNat_of_nonneg h3] at this
/-- The kept ends of a row: their nodes. -/
def kpF (K : Nat → Nat → Bool) (v : Nat) (r : List (Int × Int)) (k : Nat) : List Int := ((List.range k).filter (K v)).map fun i => (r.getD i (0, 0)).1
theorem kpF_yes {K : Nat → Nat → Bool} {v : Nat} {r : List (Int × Int)} {k : Nat} (hk : k < r.length) (h : K v k = true) : kpF K v r k ++ [r[k].1] = kpF K v r (k + 1) := by simp [kpF, List.range_succ, h, List.getElem?_eq_getElem hk]
theorem kpF_no {K : Nat → Nat → Bool} {v : Nat} {r : List (Int × Int)} {k : Nat} (h : K v k = false) : kpF K v r k = kpF K v r (k + 1) := by simp [kpF, List.range_succ, h]
theorem kpF_len (K : Nat → Nat → Bool) (v : Nat) (r : List (Int × Int)) (k : Nat) : (kpF K v r k).length ≤ k := by unfold kpF; rw [List.length_map]; exact Nat.le_trans (List.length_filter_le _ _) (by simp)
/-- The first j rows of what is left. -/
def CutP (ends : Ends) (K : Nat → Nat → Bool) (RS : Ends) (j : Nat) : Prop := RS.length = j ∧ ∀ v, v < j → (RS.getD v []).map Prod.fst = kpF K v (ends.getD v []) (ends.getD v []).length
theorem cutP_snoc {ends : Ends} {K : Nat → Nat → Bool} {RS : Ends} {j : Nat} (h : CutP ends K RS j) {P : List (Int × Int)} (hP : P.map Prod.fst = kpF K j (ends.getD j []) (ends.getD j []).length) : CutP ends K (RS ++ [P]) (j + 1) := by
  refine ⟨by simp [h.1], fun v hv => ?_⟩
  by_cases e : v = j
  · subst e
    rw [show (RS ++ [P]).getD v [] = P by simp [List.getD, ← h.1]]
    exact hP
  · rw [show (RS ++ [P]).getD v [] = RS.getD v [] by simp [List.getD, List.getElem?_append_left (show v < RS.length by rw [h.1]; omega)]]
    exact h.2 v (by omega)
theorem cutP_of {ends : Ends} {K : Nat → Nat → Bool} {RS : Ends} (h : CutP ends K RS ends.length) : CutOf ends RS K := ⟨h.1, fun v hv => by have := h.2 v hv; rw [getD_eq hv] at this; exact this⟩
theorem cutP_tot {ends : Ends} {K : Nat → Nat → Bool} {RS : Ends} {j : Nat} (h : CutP ends K RS j) (h6 : ∀ v, (ends.getD v []).length ≤ 6) : totL RS ≤ j * 7 := by
  have h1 : ∀ r ∈ RS, r.length ≤ 6 := fun r hr => by
    obtain ⟨v, hv, rfl⟩ := List.mem_iff_getElem.1 hr
    have := congrArg List.length (h.2 v (by rw [← h.1]; exact hv))
    rw [List.length_map, getD_eq hv] at this
    have k1 := kpF_len K v (ends.getD v []) (ends.getD v []).length
    have k2 := h6 v
    omega
  have h2 := h.1
  unfold totL
  have : (RS.map List.length).sum ≤ RS.length * 6 := by
    clear h h2
    induction RS with
    | nil => simp
    | cons x r ih =>
      have := ih fun y hy => h1 y (List.mem_cons_of_mem _ hy)
      have := h1 x (List.mem_cons_self ..)
      simp only [List.map_cons, List.sum_cons, List.length_cons, Nat.add_mul]; omega
  omega
theorem take_snoc {α : Type} {l : List α} {j : Nat} (h : j < l.length) : l.take j ++ [l[j]] = l.take (j + 1) := by rw [List.take_succ_eq_append_getElem h]
/-- Both sides of an edge are left out. -/
def kq (q : Quad) (v i : Nat) : Bool := !(decide ((v : Int) = q.1 ∧ (i : Int) = q.2.1)) && !(decide ((v : Int) = q.2.2.1 ∧ (i : Int) = q.2.2.2))
theorem kq_off {x k : Nat} {e : Int × Int} : kq ((x : Int), (k : Int), e.1, e.2) = offE x k e := by
  funext v i; unfold kq offE; congr 2; apply decide_eq_decide.2; simp only []; omega
theorem IsNet.mono2 {lo hi lo2 hi2 : Nat} {w : World} {h : NA} {A : Net} (x : IsNet lo hi w h A) (h1 : lo2 ≤ lo) (h2 : hi ≤ hi2) : IsNet lo2 hi2 w h A := ⟨x.ends.mono h1 h2, x.ids.mono h1 h2, x.inputs.mono h1 h2⟩
theorem bfs_symE {ends : Ends} (hE : EndsOk ends) (hS : SymE ends) {u v : Nat} (hu : u < ends.length) (hv : v < ends.length) (h : 0 ≤ (bfs ends (v : Int)).getD u 0) : (bfs ends (u : Int)).getD v 0 = (bfs ends (v : Int)).getD u 0 := by
  have h1 := (bfs_walk hE (by omega) (by omega) hu h).symm hE hS
  have h2 := bfs_least hE (by omega) (by omega) h1
  simp only [Int.toNat_natCast] at h2
  have h3 := (bfs_walk hE (by omega) (by omega) hv h2.1).symm hE hS
  have h4 := bfs_least hE (by omega) (by omega) h3
  simp only [Int.toNat_natCast] at h4
  omega
theorem offE_comm {v i : Nat} {e : Int × Int} (h1 : 0 ≤ e.1) (h2 : 0 ≤ e.2) : offE e.1.toNat e.2.toNat ((v : Int), (i : Int)) = offE v i e := by
  funext x k
  have a1 : decide (x = e.1.toNat ∧ k = e.2.toNat) = decide ((x : Int) = e.1 ∧ (k : Int) = e.2) := decide_eq_decide.2 (by omega)
  have a2 : decide ((x : Int) = (v : Int) ∧ (k : Int) = (i : Int)) = decide (x = v ∧ k = i) := decide_eq_decide.2 (by omega)
  unfold offE
  rw [a1, a2, Bool.and_comm]
theorem avo_sym {A : Net} (h : NOk A) {x k : Nat} (hx : x < A.ends.length) (hk : k < A.ends[x].length) (h0 : 0 ≤ avo A.ends x k) : avo A.ends A.ends[x][k].1.toNat A.ends[x][k].2.toNat = avo A.ends x k := by
  obtain ⟨h1, h2, h3, h4, h5⟩ := h.endOk hx hk
  unfold avo at h0 ⊢
  rw [getD_eq hx, getD_eq hk] at h0 ⊢
  rw [getD_eq h2, getD_eq h4, h5, offE_comm h1 h3]
  simp only [Int.toNat_natCast]
  have hc := cutE_of A.ends (offE x k A.ends[x][k])
  exact bfs_symE (cut_endsOk h.ports hc) (cut_sym h.ports hx hk hc) (by rw [hc.len]; exact h2) (by rw [hc.len]; exact hx) h0
/-- The lengths of cycles through the first m edges. -/
def EG (ends : Ends) (m : Nat) (y : Int) : Prop := ∃ t, ∃ h : t < (edL ends).length, t < m ∧ ¬ St (edL ends)[t] ∧ y = avo ends (edL ends)[t].1.toNat (edL ends)[t].2.1.toNat + 1
theorem EG_zero {ends : Ends} {y : Int} : ¬ EG ends 0 y := by rintro ⟨t, h, h1, _⟩; omega
theorem EG_skip {ends : Ends} {m : Nat} (h : m < (edL ends).length) (hs : St (edL ends)[m]) (y : Int) : EG ends m y ↔ EG ends (m + 1) y := by
  constructor
  · rintro ⟨t, ht, h1, h2⟩; exact ⟨t, ht, by omega, h2⟩
  · rintro ⟨t, ht, h1, h2, h3⟩
    refine ⟨t, ht, ?_, h2, h3⟩
    by_cases e : t = m
    · subst e; exact absurd hs h2
    · omega
theorem EG_put {ends : Ends} {m : Nat} (h : m < (edL ends).length) (hs : ¬ St (edL ends)[m]) {x : Int} (hx : x = avo ends (edL ends)[m].1.toNat (edL ends)[m].2.1.toNat + 1) (y : Int) : EG ends (m + 1) y ↔ EG ends m y ∨ y = x := by
  subst hx
  constructor
  · rintro ⟨t, ht, h1, h2, h3⟩
    by_cases e : t = m
    · subst e; exact .inr h3
    · exact .inl ⟨t, ht, by omega, h2, h3⟩
  · rintro (⟨t, ht, h1, h2⟩ | e)
    · exact ⟨t, ht, by omega, h2⟩
    · exact ⟨m, h, by omega, hs, e⟩
theorem EG_SA {A : Net} (h : NOk A) (y : Int) (hy : 0 < y) : EG A.ends (edL A.ends).length y ↔ SA A.ends A.ends.length 0 y := by
  constructor
  · rintro ⟨t, ht, _, h2, h3⟩
    obtain ⟨v, hv, i, hi, _, e⟩ := edL_mem.1 (List.getElem_mem ht)
    rw [e] at h2 h3
    exact ⟨v, i, hv, hi, .inl hv, fun e9 => h2 (by rw [e9]; exact ⟨rfl, rfl⟩), h3⟩
  · rintro ⟨v, j, hv, hj, _, hne, rfl⟩
    have hm := quadOf_mem h.ports hv hj
    obtain ⟨t, ht, e⟩ := List.mem_iff_getElem.1 hm
    obtain ⟨k1, k2, k3, k4, k5⟩ := h.endOk hv hj
    refine ⟨t, ht, ht, ?_, ?_⟩
    · rw [e]; unfold quadOf St
      intro h9
      split at h9
      · exact hne (Prod.ext h9.1.symm h9.2.symm)
      · exact hne (Prod.ext h9.1 h9.2)
    · rw [e]; unfold quadOf
      split
      · rfl
      · simp only []
        rw [avo_sym h hv hj (by omega)]
/-- An edge of the list, as a port of the first node. -/
theorem edL_portAt {A : Net} (h : NOk A) {t : Nat} (ht : t < (edL A.ends).length) : ∃ x k, ∃ hx : x < A.ends.length, ∃ hk : k < A.ends[x].length, (edL A.ends)[t] = ((x : Int), (k : Int), A.ends[x][k].1, A.ends[x][k].2) := by
  obtain ⟨v, hv, i, hi, _, e⟩ := edL_mem.1 (List.getElem_mem ht)
  exact ⟨v, i, hv, hi, e⟩
theorem avo_loop {A : Net} (h : NOk A) {x k : Nat} (hx : x < A.ends.length) (hk : k < A.ends[x].length) (e : (x : Int) = A.ends[x][k].1) : avo A.ends x k = 0 := by
  have hc := cutE_of A.ends (offE x k A.ends[x][k])
  have hE := cut_endsOk h.ports hc
  have := bfs_src hE (v := (x : Int)) (by omega) (by rw [hc.len]; simpa using hx)
  unfold avo
  rw [getD_eq hx, getD_eq hk, ← e]
  exact this
theorem avo_cut {A : Net} (h : NOk A) {x k : Nat} (hx : x < A.ends.length) (hk : k < A.ends[x].length) {N : Ends} (hc : CutOf A.ends N (offE x k A.ends[x][k])) : (bfs N (x : Int)).getD A.ends[x][k].1.toNat 0 = avo A.ends x k := by
  unfold avo
  rw [getD_eq hx, getD_eq hk, ← hc.bfs]
theorem kq_sym {A : Net} (h : NOk A) {x k : Nat} (hx : x < A.ends.length) (hk : k < A.ends[x].length) {v i : Nat} (hv : v < A.ends.length) (hi : i < A.ends[v].length) (ho : offE x k A.ends[x][k] v i = true) : offE x k A.ends[x][k] A.ends[v][i].1.toNat A.ends[v][i].2.toNat = true := by
  obtain ⟨h1, h2, h3, h4, h5⟩ := h.endOk hx hk
  obtain ⟨k1, k2, k3, k4, k5⟩ := h.endOk hv hi
  rw [offE_true] at ho ⊢
  constructor
  · rintro ⟨e1, e2⟩
    refine ho.2 ?_
    subst e1 e2
    rw [k5]; exact ⟨rfl, rfl⟩
  · rintro ⟨e1, e2⟩
    refine ho.1 ?_
    have e3 : A.ends[v][i] = A.ends[x][k] := Prod.ext (by omega) (by omega)
    simp only [e3] at k5
    rw [h5] at k5
    have := Prod.mk.inj k5
    omega

set_option maxRecDepth 100000 in
theorem numbersTo_spec (n : Nat) (w : World) (hn : n ≤ 1000) :
    Fn Try.prog 41 #[VI (n : Int)] w (fun o9 w' => ∃ a', o9 = .slice a' n n ∧ Ints w.heap.size w'.heap.size w' a' n (idl n) ∧ Ext w w') := by
  have hE := Ext.refl w
  refine Fn_of Try.func41 rfl rfl (by kernel_rfl) rfl ?_
  refine W_seq ?_
  refine W_region ?_
  refine WL_q rfl (ev_assign rfl) ?_
  refine WL_nil ?_
  refine thenE_n ?_
  refine W_seq ?_
  refine W_region ?_
  refine WL_q rfl (ev_move rfl) ?_
  refine WL_m rfl (ev_make Try.underlying23 el3 rfl rfl rfl (by omega) (by omega) (by omega)) ?_
  rintro _ w6 ⟨rfl, hN6⟩
  have hz6 := hN6.size
  replace hE := hE.trans hN6.ext
  have hB6 := hN6.blk
  have hBf : Blk w6 w.heap.size 3 ((fz n 0).map VI) := by rw [fz_zero, List.map_replicate]; exact hB6
  refine WL_q rfl (ev_assign rfl) ?_
  refine WL_nil ?_
  refine thenE_n ?_
  refine W_seq ?_
  refine W_seq ?_
  refine W_region ?_
  refine WL_q rfl (ev_move rfl) ?_
  refine WL_q rfl (ev_len Try.underlying23 rfl) ?_
  refine WL_q rfl (ev_move rfl) ?_
  refine WL_nil ?_
  refine thenE_n ?_
  refine W_block ?_
  refine W_loopC (G := Nat) [(3, _), (8, _)] ((Subs.c rfl (Subs.c rfl Subs.n))) (fun i => [(9, VI (i : Int))]) (fun i w' => Lo (w.heap.size) w6 w' ∧ i ≤ n ∧ Blk w' w.heap.size 3 ((fz n i).map VI)) (fun i => n - i) 0 ((Subs.c (lkI rfl (by omega)) Subs.n)) (⟨Lo.refl (by omega), ⟨Nat.zero_le _, hBf⟩⟩) ?_
  rintro i wL0 ⟨hRL0, hi', hBf⟩
  have hzL0 := hRL0.size
  replace hE := hE.lo hRL0 (by omega)
  have hfl := fz_len n i
  refine W_seq ?_
  refine W_region ?_
  refine WL_q rfl (ev_lss rfl rfl) ?_
  refine WL_nil ?_
  refine thenE_n ?_
  refine W_seq ?_
  refine W_cond rfl (fun hg10 => ?_) (fun hg10 => ?_)
  · have hp10 := of_decide_eq_true hg10
    refine W_skip ?_
    refine thenE_n ?_
    refine W_seq ?_
    refine W_block ?_
    refine W_seq ?_
    refine W_region ?_
    refine WL_q rfl (ev_move rfl) ?_
    refine WL_q rfl (ev_assign rfl) ?_
    refine WL_nil ?_
    refine thenE_n ?_
    refine W_region ?_
    refine WL_q rfl (ev_move rfl) ?_
    refine WL_q rfl (ev_move rfl) ?_
    refine WL_q rfl (ev_move rfl) ?_
    refine WL_q rfl (ev_indexAddr Try.underlying23 sz3 rfl rfl rfl (by omega) (by omega)) ?_
    refine WL_s (ev_store sz3 rfl rfl rfl hBf (by simp; omega)) ?_
    rintro _ w5_4 hS5_4
    have hz5_4 := hS5_4.size
    replace hE := hE.sto hS5_4 (by omega)
    replace hRL0 := hRL0.sto hS5_4 (by omega)
    replace hBf := hS5_4.blk
    replace hBf := iset (i := i) (by omega) hBf
    refine WL_nil ?_
    refine blockE_n ?_
    refine thenE_n ?_
    refine W_region ?_
    refine WL_q rfl (ev_add rfl rfl (by omega)) ?_
    refine WL_q rfl (ev_move rfl) ?_
    refine WL_nil ?_
    refine thenE_n ?_
    rw [fz_set (by omega)] at hBf
    exact ⟨i + 1, (Subs.c rfl (Subs.c rfl Subs.n)), (Subs.c (lkI rfl (by omega)) Subs.n), ⟨hRL0, ⟨by omega, hBf⟩⟩, by first | omega | (dsimp only; omega)⟩
  · have hp10 := of_decide_eq_false hg10
    refine W_exit ?_
    refine thenE_x ?_
    refine thenE_x ?_
    refine blockE_hit ?_
    refine thenE_n ?_
    refine W_seq ?_
    refine W_region ?_
    refine WL_q rfl (ev_move rfl) ?_
    refine WL_q rfl (ev_assign rfl) ?_
    refine WL_nil ?_
    refine thenE_n ?_
    refine W_ret ?_
    refine ret1 rfl rfl ?_
    have hi9 : i = n := by omega
    subst hi9
    rw [fz_full] at hBf
    exact ⟨_, rfl, (Blk.ints hBf (by rw [idl_len]; omega)).mono (by omega) (by have := hBf.lt; omega), hE⟩

set_option maxHeartbeats 1000000 in
set_option maxRecDepth 100000 in
theorem part_spec {loA hiA : Nat} (nA : NA) (A : Net) {loN hiN : Nat} (aN : Option Addr) (cN : Nat) (f : FuncId) (cap : List Value) (KK : Nat → Nat → Bool) (w : World) (hA : IsNet loA hiA w nA A) (hhiA : hiA ≤ w.heap.size) (hnA : totN A ≤ 1048576) (hN : Ints loN hiN w aN cN (idl A.ends.length)) (hhiN : hiN ≤ w.heap.size) (hkA : NOk A) (hKs : ∀ v (hv : v < A.ends.length) i (hi : i < A.ends[v].length), KK v i = true → KK A.ends[v][i].1.toNat A.ends[v][i].2.toNat = true) (hp : ∀ v (hv : v < A.ends.length) i (hi : i < A.ends[v].length) (w1 : World), Ext w w1 → Fn Try.prog f ([] ++ [VI (v : Int), VI (i : Int)] ++ cap).toArray w1 (fun r w2 => r = VB (KK v i) ∧ Ext w1 w2)) :
    Fn Try.prog 40 #[netV nA A, .slice aN A.ends.length cN, .func (.func f) #[] cap.toArray] w (fun o9 w' => ∃ h' N, o9 = netV h' N ∧ IsNet w.heap.size w'.heap.size w' h' N ∧ CutOf A.ends N.ends KK ∧ totN N ≤ 1048576 ∧ Ext w w') := by
  have hqA := totL_len A.ends
  have hmA : totL A.ends + A.ids.length + A.inputs.length ≤ 1048576 := hnA
  have hndA := hkA.nodes
  have hk := hkA.endsOk
  have h6 := hkA.six
  have hidA : A.ids.length ≤ 40 := by rcases hkA.ids with h1 | h1; omega; have := h1.1; omega
  have hinA := hkA.inLen
  have hil := idl_len A.ends.length
  have hE := Ext.refl w
  refine Fn_of Try.func40 rfl rfl (by kernel_rfl) rfl ?_
  refine W_seq ?_
  refine W_region ?_
  refine WL_m rfl (ev_box rfl) ?_
  rintro _ w3 ⟨rfl, hN3⟩
  have hz3 := hN3.size
  replace hE := hE.trans hN3.ext
  replace hA := hA.ext hN3.ext
  replace hN := hN.ext hN3.ext
  have hB3 : Blk w3 _ _ [_, _, _] := hN3.blk
  refine WL_m rfl (ev_alloc zr31) ?_
  rintro _ w6 ⟨rfl, hN6⟩
  have hz6 := hN6.size
  replace hE := hE.trans hN6.ext
  replace hA := hA.ext hN6.ext
  replace hN := hN.ext hN6.ext
  replace hB3 := hB3.ext hN6.ext
  have hB6 : Blk w6 _ _ [_, _, _] := hN6.blk
  refine WL_nil ?_
  refine thenE_n ?_
  refine W_seq ?_
  refine W_region ?_
  refine WL_m rfl (ev_alloc zr31) ?_
  rintro _ w7 ⟨rfl, hN7⟩
  have hz7 := hN7.size
  replace hE := hE.trans hN7.ext
  replace hA := hA.ext hN7.ext
  replace hN := hN.ext hN7.ext
  replace hB3 := hB3.ext hN7.ext
  replace hB6 := hB6.ext hN7.ext
  have hB7 : Blk w7 _ _ [_, _, _] := hN7.blk
  refine WL_nil ?_
  refine thenE_n ?_
  refine W_seq ?_
  refine W_region ?_
  refine WL_m rfl (ev_makeMap (κ := Int × Int) (μ := Int × Int) (K := 57) (ek := VPair) (em := VPair)) ?_
  rintro _ w18 ⟨rfl, hE18, hz18, hM18⟩
  replace hE := hE.trans hE18
  replace hA := hA.ext hE18
  replace hN := hN.ext hE18
  replace hB3 := hB3.ext hE18
  replace hB6 := hB6.ext hE18
  replace hB7 := hB7.ext hE18
  have hm18 := hM18.lt
  refine WL_q rfl (ev_assign rfl) ?_
  refine WL_nil ?_
  refine thenE_n ?_
  refine W_seq ?_
  refine W_seq ?_
  refine W_region ?_
  refine WL_q rfl (ev_move rfl) ?_
  refine WL_q rfl (ev_len Try.underlying23 rfl) ?_
  refine WL_q rfl (ev_move rfl) ?_
  refine WL_nil ?_
  refine thenE_n ?_
  refine W_block ?_
  refine W_loopC (G := Nat) [(1, _), (2, _), (3, _), (6, _), (7, _), (8, _), (19, _), (20, _)] ((Subs.c rfl (Subs.c rfl (Subs.c rfl (Subs.c rfl (Subs.c rfl (Subs.c rfl (Subs.c rfl (Subs.c rfl Subs.n))))))))) (fun i => [(21, VI (i : Int))]) (fun i w' => KX (w7.heap.size) w18 w' ∧ i ≤ A.ends.length ∧ Mp Try.prog 57 VPair VPair w' w7.heap.size (pkN A.ends KK i)) (fun i => A.ends.length - i) 0 ((Subs.c (lkI rfl (by omega)) Subs.n)) (⟨KX.refl _ _, ⟨Nat.zero_le _, hM18⟩⟩) ?_
  rintro i wL0 ⟨hRL0, hi', hM⟩
  have hzL0 := hRL0.size
  replace hA := hA.kx hRL0 (by omega)
  replace hN := hN.kx hRL0 (by omega)
  replace hB3 := hB3.kx hRL0 (by omega)
  replace hB6 := hB6.kx hRL0 (by omega)
  replace hB7 := hB7.kx hRL0 (by omega)
  replace hE := hE.kx hRL0 (by omega)
  refine W_seq ?_
  refine W_region ?_
  refine WL_q rfl (ev_lss rfl rfl) ?_
  refine WL_nil ?_
  refine thenE_n ?_
  refine W_seq ?_
  refine W_cond rfl (fun hg22 => ?_) (fun hg22 => ?_)
  · have hp22 := of_decide_eq_true hg22
    refine W_skip ?_
    refine thenE_n ?_
    refine W_seq ?_
    refine W_block ?_
    refine W_seq ?_
    refine W_region ?_
    refine WL_q rfl (ev_move rfl) ?_
    have hlt : i < A.ends.length := by omega
    have htl := totL_le hlt
    have h6i := h6 _ (List.getElem_mem hlt)
    refine WL_q rfl (ev_indexAddr Try.underlying23 sz3 rfl rfl (hN.isSome (by omega)) (by omega) (by omega)) ?_
    refine WL_q rfl (ev_load one3 rfl (hN.cell (i := i) (by omega))) ?_
    rw [idl_at]
    refine WL_q rfl (ev_assign rfl) ?_
    refine WL_q rfl (ev_assign rfl) ?_
    refine WL_nil ?_
    refine thenE_n ?_
    refine W_seq ?_
    refine W_region ?_
    refine WL_q rfl (ev_assign rfl) ?_
    refine WL_nil ?_
    refine thenE_n ?_
    refine W_seq ?_
    refine W_region ?_
    refine WL_q rfl (ev_fieldAddr fo31_0 rfl) ?_
    refine WL_q rfl (ev_load one29 rfl (hB3.cell rfl)) ?_
    refine WL_q rfl (ev_move rfl) ?_
    have hl29 : i < A.ends.length := by omega
    have ht29 := totL_le hl29
    obtain ⟨a29, c29, hc29, hr29⟩ := hA.ends.row hl29
    refine WL_q rfl (ev_indexAddr Try.underlying29 sz55 rfl rfl (hA.ends.isSome (by omega)) (by omega) (by omega)) ?_
    refine WL_q rfl (ev_load one55 rfl (hc29)) ?_
    refine WL_q rfl (ev_len Try.underlying55 rfl) ?_
    refine WL_q rfl (ev_move rfl) ?_
    refine WL_nil ?_
    refine thenE_n ?_
    refine W_block ?_
    refine W_loopC (G := Nat) [(1, _), (2, _), (3, _), (6, _), (7, _), (8, _), (9, _), (10, _), (19, _), (20, _), (21, _), (31, _)] ((Subs.c rfl (Subs.c rfl (Subs.c rfl (Subs.c rfl (Subs.c rfl (Subs.c rfl (Subs.c rfl (Subs.c rfl (Subs.c rfl (Subs.c rfl (Subs.c rfl (Subs.c rfl Subs.n))))))))))))) (fun k => [(11, VI (pcn KK i k : Int)), (32, VI (k : Int))]) (fun k w' => KX (w7.heap.size) wL0 w' ∧ k ≤ A.ends[i].length ∧ Mp Try.prog 57 VPair VPair w' w7.heap.size (pkN A.ends KK i ++ pkR KK i k)) (fun k => A.ends[i].length - k) 0 ((Subs.c (lkI rfl (by simp [pcn])) (Subs.c (lkI rfl (by omega)) Subs.n))) (⟨KX.refl _ _, ⟨Nat.zero_le _, by rw [pkR_zero, List.append_nil]; exact hM⟩⟩) ?_
    rintro k wL2 ⟨hRL2, hk', hM⟩
    have hzL2 := hRL2.size
    replace hA := hA.kx hRL2 (by omega)
    replace hN := hN.kx hRL2 (by omega)
    replace hB3 := hB3.kx hRL2 (by omega)
    replace hB6 := hB6.kx hRL2 (by omega)
    replace hB7 := hB7.kx hRL2 (by omega)
    replace hr29 := hr29.kx hRL2 (by omega)
    replace hE := hE.kx hRL2 (by omega)
    replace hRL0 := hRL0.kx hRL2 (by omega)
    have hpc := pcn_le KK i k
    refine W_seq ?_
    refine W_region ?_
    refine WL_q rfl (ev_lss rfl rfl) ?_
    refine WL_nil ?_
    refine thenE_n ?_
    refine W_seq ?_
    refine W_cond rfl (fun hg33 => ?_) (fun hg33 => ?_)
    · have hp33 := of_decide_eq_true hg33
      refine W_skip ?_
      refine thenE_n ?_
      refine W_seq ?_
      refine W_block ?_
      refine W_seq ?_
      refine W_region ?_
      refine WL_q rfl (ev_move rfl) ?_
      refine WL_q rfl (ev_assign rfl) ?_
      refine WL_nil ?_
      refine thenE_n ?_
      refine W_seq ?_
      refine W_region ?_
      refine WL_q rfl (ev_move rfl) ?_
      refine WL_q rfl (ev_move rfl) ?_
      refine WL_q rfl (ev_move rfl) ?_
      have hlk : k < A.ends[i].length := by omega
      refine WL_m rfl (ev_callv rfl rfl (hp i hlt k hlk _ hE)) ?_
      rintro _ w38 ⟨rfl, hE38⟩
      have hz38 := hE38.size
      replace hE := hE.trans hE38
      replace hRL0 := hRL0.trans hE38
      replace hRL2 := hRL2.trans hE38
      replace hA := hA.ext hE38
      replace hN := hN.ext hE38
      replace hB3 := hB3.ext hE38
      replace hB6 := hB6.ext hE38
      replace hB7 := hB7.ext hE38
      replace hr29 := hr29.ext hE38
      replace hM := hM.ext hE38
      refine WL_nil ?_
      refine thenE_n ?_
      refine W_cond rfl (fun hg38 => ?_) (fun hg38 => ?_)
      · refine W_seq ?_
        refine W_region ?_
        refine WL_q rfl (ev_move rfl) ?_
        refine WL_q rfl (ev_move rfl) ?_
        refine WL_q rfl (ev_move rfl) ?_
        refine WL_q rfl (ev_build2 sn57_2 rfl rfl rfl rfl) ?_
        refine WL_q rfl (ev_move rfl) ?_
        refine WL_q rfl (ev_move rfl) ?_
        refine WL_q rfl (ev_build2 sn57_2 rfl rfl rfl rfl) ?_
        refine WL_s (ev_mapNew (k := ((i : Int), (k : Int))) (m := ((i : Int), (pcn KK i k : Int))) plaw VPair_inj Try.underlying82 rfl rfl rfl hM (pgood (by constructor <;> (simp only []; omega)) (by constructor <;> (simp only []; omega))) pk_new) ?_
        rintro _ w11_7 ⟨hK11_7, hz11_7, hM11_7⟩
        replace hE := hE.kx hK11_7 (by omega)
        replace hRL0 := hRL0.kx hK11_7 (by omega)
        replace hRL2 := hRL2.kx hK11_7 (by omega)
        replace hA := hA.kx hK11_7 (by omega)
        replace hN := hN.kx hK11_7 (by omega)
        replace hB3 := hB3.kx hK11_7 (by omega)
        replace hB6 := hB6.kx hK11_7 (by omega)
        replace hB7 := hB7.kx hK11_7 (by omega)
        replace hr29 := hr29.kx hK11_7 (by omega)
        replace hM := hM11_7
        refine WL_nil ?_
        refine thenE_n ?_
        refine W_region ?_
        refine WL_q rfl (ev_move rfl) ?_
        refine WL_q rfl (ev_add rfl rfl (by omega)) ?_
        refine WL_q rfl (ev_assign rfl) ?_
        refine WL_nil ?_
        refine blockE_n ?_
        refine thenE_n ?_
        refine W_region ?_
        refine WL_q rfl (ev_add rfl rfl (by omega)) ?_
        refine WL_q rfl (ev_move rfl) ?_
        refine WL_nil ?_
        refine thenE_n ?_
        exact ⟨k + 1, (Subs.c rfl (Subs.c rfl (Subs.c rfl (Subs.c rfl (Subs.c rfl (Subs.c rfl (Subs.c rfl (Subs.c rfl (Subs.c rfl (Subs.c rfl (Subs.c rfl (Subs.c rfl Subs.n)))))))))))), (Subs.c (lkI rfl (by rw [pcn_yes hg38]; rfl)) (Subs.c (lkI rfl (by omega)) Subs.n)), ⟨hRL2, ⟨by omega, by rw [← pkR_yes hg38, ← List.append_assoc]; exact hM⟩⟩, by first | omega | (dsimp only; omega)⟩
      · refine W_skip ?_
        refine blockE_n ?_
        refine thenE_n ?_
        refine W_region ?_
        refine WL_q rfl (ev_add rfl rfl (by omega)) ?_
        refine WL_q rfl (ev_move rfl) ?_
        refine WL_nil ?_
        refine thenE_n ?_
        exact ⟨k + 1, (Subs.c rfl (Subs.c rfl (Subs.c rfl (Subs.c rfl (Subs.c rfl (Subs.c rfl (Subs.c rfl (Subs.c rfl (Subs.c rfl (Subs.c rfl (Subs.c rfl (Subs.c rfl Subs.n)))))))))))), (Subs.c (lkI rfl (by rw [pcn_no hg38])) (Subs.c (lkI rfl (by omega)) Subs.n)), ⟨hRL2, ⟨by omega, by rw [← pkR_no hg38]; exact hM⟩⟩, by first | omega | (dsimp only; omega)⟩
    · have hp33 := of_decide_eq_false hg33
      refine W_exit ?_
      refine thenE_x ?_
      refine thenE_x ?_
      refine blockE_hit ?_
      refine blockE_n ?_
      refine thenE_n ?_
      refine W_region ?_
      refine WL_q rfl (ev_add rfl rfl (by omega)) ?_
      refine WL_q rfl (ev_move rfl) ?_
      refine WL_nil ?_
      refine thenE_n ?_
      have hk9 : k = A.ends[i].length := by omega
      rw [hk9, pkN_next hlt] at hM
      exact ⟨i + 1, (Subs.c rfl (Subs.c rfl (Subs.c rfl (Subs.c rfl (Subs.c rfl (Subs.c rfl (Subs.c rfl (Subs.c rfl Subs.n)))))))), (Subs.c (lkI rfl (by omega)) Subs.n), ⟨hRL0, ⟨by omega, hM⟩⟩, by first | omega | (dsimp only; omega)⟩
  · have hp22 := of_decide_eq_false hg22
    refine W_exit ?_
    refine thenE_x ?_
    refine thenE_x ?_
    refine blockE_hit ?_
    refine thenE_n ?_
    refine W_seq ?_
    refine W_seq ?_
    refine W_region ?_
    refine WL_q rfl (ev_move rfl) ?_
    refine WL_q rfl (ev_len Try.underlying23 rfl) ?_
    refine WL_q rfl (ev_move rfl) ?_
    refine WL_nil ?_
    refine thenE_n ?_
    refine W_block ?_
    have hi9 : i = A.ends.length := by omega
    subst hi9
    have hnd := hM.nodup
    refine W_loopC (G := Nat × Option Addr × Nat × Option Addr × Nat × Option Addr × Nat × List (Option Addr × Nat) × Ends) [(2, _), (3, _), (6, _), (7, _), (8, _), (50, _), (51, _)] ((Subs.c rfl (Subs.c rfl (Subs.c rfl (Subs.c rfl (Subs.c rfl (Subs.c rfl (Subs.c rfl Subs.n)))))))) (fun ⟨j, a, c, a2, c2, a3, c3, vs, RS⟩ => [(52, VI (j : Int))]) (fun ⟨j, a, c, a2, c2, a3, c3, vs, RS⟩ w' => KX (w6.heap.size) wL0 w' ∧ j ≤ A.ends.length ∧ Blk w' w6.heap.size 31 [.slice a RS.length c, .slice a2 (A.ids.take j).length c2, .slice a3 (A.inputs.take j).length c3] ∧ NAcc wL0.heap.size w'.heap.size w' 57 55 3 vs ⟨a, c, a2, c2, a3, c3⟩ ⟨RS, (A.ids.take j), (A.inputs.take j)⟩ ∧ CutP A.ends KK RS j) (fun g => A.ends.length - g.1) (0, none, 0, none, 0, none, 0, [], []) ((Subs.c (lkI rfl (by omega)) Subs.n)) (⟨KX.refl _ _, ⟨Nat.zero_le _, hB7, NAcc.nil, rfl, fun v hv => absurd hv (Nat.not_lt_zero _)⟩⟩) ?_
    rintro ⟨j, a, c, a2, c2, a3, c3, vs, RS⟩ wL4 ⟨hRL4, hj', hB7, hNA, hCP⟩
    have hzL4 := hRL4.size
    replace hA := hA.kx hRL4 (by omega)
    replace hN := hN.kx hRL4 (by omega)
    replace hB3 := hB3.kx hRL4 (by omega)
    replace hB6 := hB6.kx hRL4 (by omega)
    replace hM := hM.kx hRL4 (by omega)
    replace hE := hE.kx hRL4 (by omega)
    refine W_seq ?_
    refine W_region ?_
    refine WL_q rfl (ev_lss rfl rfl) ?_
    refine WL_nil ?_
    refine thenE_n ?_
    refine W_seq ?_
    refine W_cond rfl (fun hg53 => ?_) (fun hg53 => ?_)
    · have hp53 := of_decide_eq_true hg53
      refine W_skip ?_
      refine thenE_n ?_
      refine W_seq ?_
      refine W_block ?_
      refine W_seq ?_
      refine W_region ?_
      have hltj : j < A.ends.length := by omega
      have htlj := totL_le hltj
      have h6j := h6 _ (List.getElem_mem hltj)
      have hRl := hCP.1
      have htk1 : (A.inputs.take j).length = j := by rw [List.length_take]; omega
      have htk2 : (A.ids.take j).length ≤ 40 := by rw [List.length_take]; omega
      refine WL_q rfl (ev_indexAddr Try.underlying23 sz3 rfl rfl (hN.isSome (by omega)) (by omega) (by omega)) ?_
      refine WL_q rfl (ev_load one3 rfl (hN.cell (i := j) (by omega))) ?_
      rw [idl_at]
      refine WL_q rfl (ev_assign rfl) ?_
      refine WL_nil ?_
      refine thenE_n ?_
      refine W_seq ?_
      refine W_region ?_
      refine WL_q rfl (ev_assign rfl) ?_
      refine WL_nil ?_
      refine thenE_n ?_
      refine W_seq ?_
      refine W_seq ?_
      refine W_region ?_
      refine WL_q rfl (ev_fieldAddr fo31_0 rfl) ?_
      refine WL_q rfl (ev_load one29 rfl (hB3.cell rfl)) ?_
      refine WL_q rfl (ev_move rfl) ?_
      have hl59 : j < A.ends.length := by omega
      have ht59 := totL_le hl59
      obtain ⟨a59, c59, hc59, hr59⟩ := hA.ends.row hl59
      refine WL_q rfl (ev_indexAddr Try.underlying29 sz55 rfl rfl (hA.ends.isSome (by omega)) (by omega) (by omega)) ?_
      refine WL_q rfl (ev_load one55 rfl (hc59)) ?_
      refine WL_q rfl (ev_len Try.underlying55 rfl) ?_
      refine WL_q rfl (ev_move rfl) ?_
      refine WL_nil ?_
      refine thenE_n ?_
      refine W_block ?_
      refine W_loopC (G := Nat × Option Addr × Nat × List (Int × Int)) [(2, _), (3, _), (6, _), (7, _), (8, _), (14, _), (50, _), (51, _), (52, _), (60, _), (61, _)] ((Subs.c rfl (Subs.c rfl (Subs.c rfl (Subs.c rfl (Subs.c rfl (Subs.c rfl (Subs.c rfl (Subs.c rfl (Subs.c rfl (Subs.c rfl (Subs.c rfl Subs.n)))))))))))) (fun ⟨k, a6, c6, P⟩ => [(15, .slice a6 P.length c6), (62, VI (k : Int))]) (fun ⟨k, a6, c6, P⟩ w' => Ext wL4 w' ∧ k ≤ A.ends[j].length ∧ OwnH wL4.heap.size w'.heap.size 0 0 w' 57 2 a6 P.length c6 (pairCells P) ∧ P.map Prod.fst = kpF KK j A.ends[j] k) (fun g => A.ends[j].length - g.1) (0, none, 0, []) ((Subs.c rfl (Subs.c (lkI rfl (by omega)) Subs.n))) (⟨Ext.refl _, ⟨Nat.zero_le _, OwnH.nil, rfl⟩⟩) ?_
      rintro ⟨k, a6, c6, P⟩ wL6 ⟨hRL6, hk', hO, hPk⟩
      have hzL6 := hRL6.size
      replace hE := hE.trans hRL6
      replace hRL4 := hRL4.trans hRL6
      replace hA := hA.ext hRL6
      replace hN := hN.ext hRL6
      replace hB3 := hB3.ext hRL6
      replace hB6 := hB6.ext hRL6
      replace hM := hM.ext hRL6
      replace hB7 := hB7.ext hRL6
      replace hNA := hNA.ext hRL6
      replace hr59 := hr59.ext hRL6
      have hPl : P.length ≤ k := by have := congrArg List.length hPk; rw [List.length_map] at this; have := kpF_len KK j A.ends[j] k; omega
      refine W_seq ?_
      refine W_region ?_
      refine WL_q rfl (ev_lss rfl rfl) ?_
      refine WL_nil ?_
      refine thenE_n ?_
      refine W_seq ?_
      refine W_cond rfl (fun hg63 => ?_) (fun hg63 => ?_)
      · have hp63 := of_decide_eq_true hg63
        refine W_skip ?_
        refine thenE_n ?_
        refine W_seq ?_
        refine W_block ?_
        refine W_seq ?_
        refine W_region ?_
        refine WL_q rfl (ev_move rfl) ?_
        have hlkj : k < A.ends[j].length := by omega
        obtain ⟨he1, he2, he3, he4, he5⟩ := hkA.endOk hltj hlkj
        refine WL_q rfl (ev_indexAddr Try.underlying55 sz57 rfl rfl (hr59.isSome (by omega)) (by omega) (by omega)) ?_
        refine WL_q rfl (ev_loads st57 sz57 rfl (hr59.cells (i := k) (by omega)) rfl) ?_
        refine WL_m rfl (ev_alloc zr57) ?_
        rintro _ w17 ⟨rfl, hN17⟩
        have hz17 := hN17.size
        replace hE := hE.trans hN17.ext
        replace hRL4 := hRL4.trans hN17.ext
        replace hRL6 := hRL6.trans hN17.ext
        replace hA := hA.ext hN17.ext
        replace hN := hN.ext hN17.ext
        replace hB3 := hB3.ext hN17.ext
        replace hB6 := hB6.ext hN17.ext
        replace hM := hM.ext hN17.ext
        replace hB7 := hB7.ext hN17.ext
        replace hNA := hNA.ext hN17.ext
        replace hr59 := hr59.ext hN17.ext
        replace hO := hO.ext hN17.ext
        have hB17 : Blk w17 _ _ [_, _] := hN17.blk
        refine WL_q rfl (ev_assign rfl) ?_
        refine WL_s (ev_stores sz57 rfl rfl rfl (by simp [Value.oneCell']) hB17 (by simp)) ?_
        rintro _ w21_5 hS21_5
        have hz21_5 := hS21_5.size
        replace hE := hE.sto hS21_5 (by omega)
        replace hRL4 := hRL4.sto hS21_5 (by omega)
        replace hRL6 := hRL6.sto hS21_5 (by omega)
        replace hA := hA.sto hS21_5 (by omega)
        replace hN := hN.sto hS21_5 (by omega)
        replace hB3 := hB3.sto hS21_5 (by omega)
        replace hB6 := hB6.sto hS21_5 (by omega)
        replace hM := hM.sto hS21_5 (by omega)
        replace hB7 := hB7.sto hS21_5 (by omega)
        replace hNA := hNA.sto hS21_5 (by omega)
        replace hr59 := hr59.sto hS21_5 (by omega)
        replace hO := hO.sto hS21_5 (by omega)
        replace hB17 : Blk w21_5 _ _ [_, _] := hS21_5.blk
        refine WL_nil ?_
        refine thenE_n ?_
        refine W_seq ?_
        refine W_region ?_
        refine WL_q rfl (ev_move rfl) ?_
        refine WL_q rfl (ev_move rfl) ?_
        refine WL_q rfl (ev_move rfl) ?_
        refine WL_m rfl (ev_callv rfl rfl (hp j hltj k hlkj _ hE)) ?_
        rintro _ w70 ⟨rfl, hE70⟩
        have hz70 := hE70.size
        replace hE := hE.trans hE70
        replace hRL4 := hRL4.trans hE70
        replace hRL6 := hRL6.trans hE70
        replace hA := hA.ext hE70
        replace hN := hN.ext hE70
        replace hB3 := hB3.ext hE70
        replace hB6 := hB6.ext hE70
        replace hM := hM.ext hE70
        replace hB7 := hB7.ext hE70
        replace hNA := hNA.ext hE70
        replace hr59 := hr59.ext hE70
        replace hO := hO.ext hE70
        replace hB17 := hB17.ext hE70
        refine WL_nil ?_
        refine thenE_n ?_
        refine W_cond rfl (fun hg70 => ?_) (fun hg70 => ?_)
        · refine W_region ?_
          refine WL_q rfl (ev_move rfl) ?_
          refine WL_q rfl (ev_move rfl) ?_
          refine WL_q rfl (ev_loads st57 sz57 rfl (cellsB hB17) rfl) ?_
          refine WL_q rfl (ev_lookup1P (k := A.ends[j][k]) plaw VPair_inj Try.underlying82 zr57 rfl rfl hM (pgood (by have := h6; constructor <;> omega) (by have := hkA.six _ (List.getElem_mem he2); constructor <;> omega))) ?_
          rw [pk_lookE hnd he1 he2 he3 (by rw [getD_eq he2]; exact he4) (hKs j hltj k hlkj hg70)]
          refine WL_m rfl (ev_lit1 Try.underlying55 el57 (by decide) (by decide) rfl rfl) ?_
          rintro _ w75 ⟨rfl, hN75⟩
          have hz75 := hN75.size
          replace hE := hE.trans hN75.ext
          replace hRL4 := hRL4.trans hN75.ext
          replace hRL6 := hRL6.trans hN75.ext
          replace hA := hA.ext hN75.ext
          replace hN := hN.ext hN75.ext
          replace hB3 := hB3.ext hN75.ext
          replace hB6 := hB6.ext hN75.ext
          replace hM := hM.ext hN75.ext
          replace hB7 := hB7.ext hN75.ext
          replace hNA := hNA.ext hN75.ext
          replace hr59 := hr59.ext hN75.ext
          replace hO := hO.ext hN75.ext
          replace hB17 := hB17.ext hN75.ext
          have hB75 := hN75.blk
          refine WL_m rfl (ev_appendT Try.underlying55 el57 rfl (by decide) rfl rfl hO (SAt.of_blk (cs := [_, _]) (ds := []) hB75) rfl (by simp [Value.oneCell']) (by omega) (by unfold maxLen; omega) (by omega)) ?_
          rintro _ w76 ⟨a76, c76, rfl, hO76, hK76, hQ76⟩
          have hz76 := hK76.size
          replace hE := hE.rg hK76 (by omega)
          replace hRL4 := hRL4.rg hK76 (by omega)
          replace hRL6 := hRL6.rg hK76 (by omega)
          replace hA := hA.rg hK76 (by omega)
          replace hN := hN.rg hK76 (by omega)
          replace hB3 := hB3.rg hK76 (by omega)
          replace hB6 := hB6.rg hK76 (by omega)
          replace hM := hM.rg hK76 (by omega)
          replace hB7 := hB7.rg hK76 (by omega)
          replace hNA := hNA.rg hK76 (by omega)
          replace hr59 := hr59.rg hK76 (by omega)
          replace hB17 := hB17.rg hK76 (by omega)
          replace hB75 := hB75.rg hK76 (by omega)
          replace hO := hO76
          replace hO := ownt_snocP hO
          refine WL_q rfl (ev_assign rfl) ?_
          refine WL_nil ?_
          refine blockE_n ?_
          refine thenE_n ?_
          refine W_region ?_
          refine WL_q rfl (ev_add rfl rfl (by omega)) ?_
          refine WL_q rfl (ev_move rfl) ?_
          refine WL_nil ?_
          refine thenE_n ?_
          exact ⟨(k + 1, a76, c76, P ++ [(A.ends[j][k].1, (pcn KK A.ends[j][k].1.toNat A.ends[j][k].2.toNat : Int))]), (Subs.c rfl (Subs.c rfl (Subs.c rfl (Subs.c rfl (Subs.c rfl (Subs.c rfl (Subs.c rfl (Subs.c rfl (Subs.c rfl (Subs.c rfl (Subs.c rfl Subs.n))))))))))), (Subs.c (lkS rfl (by simp)) (Subs.c (lkI rfl (by omega)) Subs.n)), ⟨hRL6, ⟨by omega, (ownt_toP hO rfl (by simp)).up (Nat.le_refl _) (by omega), by rw [List.map_append, hPk]; exact kpF_yes hlkj hg70⟩⟩, by first | omega | (dsimp only; omega)⟩
        · refine W_skip ?_
          refine blockE_n ?_
          refine thenE_n ?_
          refine W_region ?_
          refine WL_q rfl (ev_add rfl rfl (by omega)) ?_
          refine WL_q rfl (ev_move rfl) ?_
          refine WL_nil ?_
          refine thenE_n ?_
          exact ⟨(k + 1, a6, c6, P), (Subs.c rfl (Subs.c rfl (Subs.c rfl (Subs.c rfl (Subs.c rfl (Subs.c rfl (Subs.c rfl (Subs.c rfl (Subs.c rfl (Subs.c rfl (Subs.c rfl Subs.n))))))))))), (Subs.c rfl (Subs.c (lkI rfl (by omega)) Subs.n)), ⟨hRL6, ⟨by omega, hO.up (Nat.le_refl _) (by omega), hPk.trans (kpF_no hg70)⟩⟩, by first | omega | (dsimp only; omega)⟩
      · have hp63 := of_decide_eq_false hg63
        refine W_exit ?_
        refine thenE_x ?_
        refine thenE_x ?_
        refine blockE_hit ?_
        refine thenE_n ?_
        refine W_seq ?_
        refine W_region ?_
        refine WL_q rfl (ev_fieldAddr fo31_0 rfl) ?_
        refine WL_q rfl (ev_load one29 rfl (hB7.cell rfl)) ?_
        refine WL_q rfl (ev_move rfl) ?_
        refine WL_m rfl (ev_lit1 Try.underlying29 el55 (by decide) (by decide) rfl rfl) ?_
        rintro _ w81 ⟨rfl, hN81⟩
        have hz81 := hN81.size
        replace hE := hE.trans hN81.ext
        replace hRL4 := hRL4.trans hN81.ext
        replace hA := hA.ext hN81.ext
        replace hN := hN.ext hN81.ext
        replace hB3 := hB3.ext hN81.ext
        replace hB6 := hB6.ext hN81.ext
        replace hM := hM.ext hN81.ext
        replace hB7 := hB7.ext hN81.ext
        replace hNA := hNA.ext hN81.ext
        replace hr59 := hr59.ext hN81.ext
        replace hO := hO.ext hN81.ext
        have hB81 := hN81.blk
        have hP82 := hNA.rows.out
        have hk9 : k = A.ends[j].length := by omega
        rw [hk9] at hPk
        refine WL_m rfl (ev_append Try.underlying29 el55 rfl (by decide) rfl rfl hP82 (SAt.of_blk (cs := [_]) (ds := []) hB81) rfl (by simp [Value.oneCell']) (by omega) (by unfold maxLen; omega) (by omega)) ?_
        rintro _ w82 ⟨a82, c82, rfl, hO82, hK82, hQ82⟩
        have hz82 := hK82.size
        replace hE := hE.app hK82 (fun q hq => by have := (hP82.block q hq).1; omega)
        replace hRL4 := hRL4.app hK82 (fun q hq => by have := (hP82.block q hq).1; omega)
        replace hA := hA.app hK82 (hP82) (by omega)
        replace hN := hN.app hK82 (hP82) (by omega)
        replace hB3 := hB3.app hK82 (hP82) (by omega)
        replace hB6 := hB6.app hK82 (hP82) (by omega)
        replace hM := hM.app hK82 (hP82) (by omega)
        replace hB7 := hB7.app hK82 (hP82) (by omega)
        replace hr59 := hr59.app hK82 (hP82) (by omega)
        have hP82 := hO82
        replace hNA := hNA.snocRow (hO.1.mono (by omega)) (fun q hq => by have := (hO.1.block q hq).1; omega) hK82 hO82 rfl hQ82 (by omega)
        refine WL_q rfl (ev_fieldAddr fo31_0 rfl) ?_
        refine WL_s (ev_store sz29 rfl rfl rfl hB7 (by simp)) ?_
        rintro _ w25_6 hS25_6
        have hz25_6 := hS25_6.size
        replace hE := hE.sto hS25_6 (by omega)
        replace hRL4 := hRL4.sto hS25_6 (by omega)
        replace hA := hA.sto hS25_6 (by omega)
        replace hN := hN.sto hS25_6 (by omega)
        replace hB3 := hB3.sto hS25_6 (by omega)
        replace hB6 := hB6.sto hS25_6 (by omega)
        replace hM := hM.sto hS25_6 (by omega)
        replace hr59 := hr59.sto hS25_6 (by omega)
        replace hNA := hNA.sto hS25_6 (by omega)
        replace hB7 : Blk w25_6 _ _ [_, _, _] := hS25_6.blk
        rw [show RS.length + 1 = (RS ++ [P]).length by simp] at hB7
        refine WL_nil ?_
        refine thenE_n ?_
        refine W_seq ?_
        refine W_drawZ 10 wL0.heap.size w82.heap.size 0 0 (fun w' => True) [(0, true), (1, true), (2, true), (3, true), (4, true), (5, true), (6, true), (7, false), (8, false), (9, true), (10, false)] mixed (by kernel_rfl) rfl (by kernel_rfl) (fun _ _ => trivial) ?_
        intro wd26 hEd26 hzd26
        replace hE := hE.trans hEd26
        replace hRL4 := hRL4.trans hEd26
        replace hA := hA.ext hEd26
        replace hN := hN.ext hEd26
        replace hB3 := hB3.ext hEd26
        replace hB6 := hB6.ext hEd26
        replace hM := hM.ext hEd26
        replace hB7 := hB7.ext hEd26
        replace hr59 := hr59.ext hEd26
        replace hNA := hNA.ext hEd26
        have hDd26 := (Rg.refl : Rg wL0.heap.size w82.heap.size 0 0 wd26 wd26)
        refine PZ_q rfl rfl rfl (fun wq hq => ev_fieldAddr fo31_2 rfl) ?_
        refine PZ_q rfl rfl rfl (fun wq hq => ev_load one23 rfl ((hB7.rg hq.1 (by omega)).cell rfl)) ?_
        refine PZ_q rfl rfl rfl (fun wq hq => ev_fieldAddr fo31_2 rfl) ?_
        refine PZ_q rfl rfl rfl (fun wq hq => ev_load one23 rfl ((hB3.rg hq.1 (by omega)).cell rfl)) ?_
        refine PZ_q rfl rfl rfl (fun wq hq => ev_move rfl) ?_
        refine PZ_q rfl rfl rfl (fun wq hq => ev_indexAddr Try.underlying23 sz3 rfl rfl (hA.inputs.isSome (by omega)) (by omega) (by omega)) ?_
        refine PZ_q rfl rfl rfl (fun wq hq => ev_load one3 rfl ((hA.inputs.rg hq.1 (by omega)).cellJ (i := j) (j := Int.toNat ((j : Nat) : Int)) (by omega) (by omega))) ?_
        refine PZ_m rfl rfl rfl (ev_lit1 Try.underlying23 el3 (by decide) (by decide) rfl rfl) ?_
        rintro _ w91 ⟨rfl, hN91⟩
        have hz91 := hN91.size
        replace hE := hE.trans hN91.ext
        replace hRL4 := hRL4.trans hN91.ext
        replace hDd26 := hDd26.trans hN91.ext
        replace hNA := hNA.ext hN91.ext
        have hB91 := hN91.blk
        refine ⟨⟨hDd26, trivial⟩, ?_⟩
        have hA_8 := hA.rg hDd26 (by omega)
        have hN_8 := hN.rg hDd26 (by omega)
        have hB3_8 := hB3.rg hDd26 (by omega)
        have hB6_8 := hB6.rg hDd26 (by omega)
        have hM_8 := hM.rg hDd26 (by omega)
        have hB7_8 := hB7.rg hDd26 (by omega)
        have hr59_8 := hr59.rg hDd26 (by omega)
        have hP92 := hNA.inp.1
        refine PZ_m rfl rfl rfl (ev_append Try.underlying23 el3 rfl (by decide) rfl rfl hP92 (SAt.of_blk (cs := [_]) (ds := []) hB91) rfl (by simp [Value.oneCell']) (by omega) (by unfold maxLen; omega) (by omega)) ?_
        rintro _ w92 ⟨a92, c92, rfl, hO92, hK92, hQ92⟩
        have hz92 := hK92.size
        replace hE := hE.app hK92 (fun q hq => by have h1 := (hP92.block q hq).1; have h2 := (hNA.inp.2 q hq).1; omega)
        replace hRL4 := hRL4.app hK92 (fun q hq => by have h1 := (hP92.block q hq).1; have h2 := (hNA.inp.2 q hq).1; omega)
        replace hDd26 := hDd26.app hK92 (fun q hq => by have h1 := (hP92.block q hq).1; have h2 := (hNA.inp.2 q hq).1; omega)
        have hP92 := hO92
        replace hNA := (hNA.snocInp hK92 hO92 rfl hQ92 (by omega)).to (show _ = (⟨RS ++ [P], A.ids.take j, A.inputs.take (j + 1)⟩ : Net) by rw [← take_snoc])
        refine ⟨⟨hDd26, trivial⟩, ?_⟩
        refine PZ_q rfl rfl rfl (fun wq hq => ev_fieldAddr fo31_2 rfl) ?_
        replace hA := hA.rg hDd26 (by omega)
        replace hN := hN.rg hDd26 (by omega)
        replace hB3 := hB3.rg hDd26 (by omega)
        replace hB6 := hB6.rg hDd26 (by omega)
        replace hM := hM.rg hDd26 (by omega)
        replace hB7 := hB7.rg hDd26 (by omega)
        replace hr59 := hr59.rg hDd26 (by omega)
        refine PZ_z rfl (ev_store sz23 rfl rfl rfl hB7 (by simp)) ?_
        rintro _ w26_10 hS26_10
        have hz26_10 := hS26_10.size
        replace hE := hE.sto hS26_10 (by omega)
        replace hRL4 := hRL4.sto hS26_10 (by omega)
        replace hA := hA.sto hS26_10 (by omega)
        replace hN := hN.sto hS26_10 (by omega)
        replace hB3 := hB3.sto hS26_10 (by omega)
        replace hB6 := hB6.sto hS26_10 (by omega)
        replace hM := hM.sto hS26_10 (by omega)
        replace hr59 := hr59.sto hS26_10 (by omega)
        replace hNA := hNA.sto hS26_10 (by omega)
        replace hB7 : Blk w26_10 _ _ [_, _, _] := hS26_10.blk
        rw [show (A.inputs.take j).length + 1 = (A.inputs.take (j + 1)).length by rw [List.length_take, List.length_take]; omega] at hB7
        refine PW_nil ?_
        refine thenE_n ?_
        refine W_seq ?_
        refine W_region ?_
        refine WL_q rfl (ev_fieldAddr fo31_1 rfl) ?_
        refine WL_q rfl (ev_load one23 rfl (hB3.cell rfl)) ?_
        refine WL_q rfl (ev_len Try.underlying23 rfl) ?_
        refine WL_q rfl (ev_gtr rfl rfl) ?_
        refine WL_nil ?_
        refine thenE_n ?_
        refine W_cond rfl (fun hg97 => ?_) (fun hg97 => ?_)
        · have hp97 := of_decide_eq_true hg97
          refine W_drawZ 10 wL0.heap.size w92.heap.size 0 0 (fun w' => True) [(0, true), (1, true), (2, true), (3, true), (4, true), (5, true), (6, true), (7, false), (8, false), (9, true), (10, false)] mixed (by kernel_rfl) rfl (by kernel_rfl) (fun _ _ => trivial) ?_
          intro wd28 hEd28 hzd28
          replace hE := hE.trans hEd28
          replace hRL4 := hRL4.trans hEd28
          replace hA := hA.ext hEd28
          replace hN := hN.ext hEd28
          replace hB3 := hB3.ext hEd28
          replace hB6 := hB6.ext hEd28
          replace hM := hM.ext hEd28
          replace hB7 := hB7.ext hEd28
          replace hr59 := hr59.ext hEd28
          replace hNA := hNA.ext hEd28
          have hDd28 := (Rg.refl : Rg wL0.heap.size w92.heap.size 0 0 wd28 wd28)
          have hjI : j < A.ids.length := by rcases hkA.ids with h9 | h9; omega; have := h9.1; omega
          refine PZ_q rfl rfl rfl (fun wq hq => ev_fieldAddr fo31_1 rfl) ?_
          refine PZ_q rfl rfl rfl (fun wq hq => ev_load one23 rfl ((hB7.rg hq.1 (by omega)).cell rfl)) ?_
          refine PZ_q rfl rfl rfl (fun wq hq => ev_fieldAddr fo31_1 rfl) ?_
          refine PZ_q rfl rfl rfl (fun wq hq => ev_load one23 rfl ((hB3.rg hq.1 (by omega)).cell rfl)) ?_
          refine PZ_q rfl rfl rfl (fun wq hq => ev_move rfl) ?_
          refine PZ_q rfl rfl rfl (fun wq hq => ev_indexAddr Try.underlying23 sz3 rfl rfl (hA.ids.isSome (by omega)) (by omega) (by omega)) ?_
          refine PZ_q rfl rfl rfl (fun wq hq => ev_load one3 rfl ((hA.ids.rg hq.1 (by omega)).cellJ (i := j) (j := Int.toNat ((j : Nat) : Int)) (by omega) (by omega))) ?_
          refine PZ_m rfl rfl rfl (ev_lit1 Try.underlying23 el3 (by decide) (by decide) rfl rfl) ?_
          rintro _ w105 ⟨rfl, hN105⟩
          have hz105 := hN105.size
          replace hE := hE.trans hN105.ext
          replace hRL4 := hRL4.trans hN105.ext
          replace hDd28 := hDd28.trans hN105.ext
          replace hNA := hNA.ext hN105.ext
          have hB105 := hN105.blk
          refine ⟨⟨hDd28, trivial⟩, ?_⟩
          have hA_8 := hA.rg hDd28 (by omega)
          have hN_8 := hN.rg hDd28 (by omega)
          have hB3_8 := hB3.rg hDd28 (by omega)
          have hB6_8 := hB6.rg hDd28 (by omega)
          have hM_8 := hM.rg hDd28 (by omega)
          have hB7_8 := hB7.rg hDd28 (by omega)
          have hr59_8 := hr59.rg hDd28 (by omega)
          have hP106 := hNA.ids.1
          refine PZ_m rfl rfl rfl (ev_append Try.underlying23 el3 rfl (by decide) rfl rfl hP106 (SAt.of_blk (cs := [_]) (ds := []) hB105) rfl (by simp [Value.oneCell']) (by omega) (by unfold maxLen; omega) (by omega)) ?_
          rintro _ w106 ⟨a106, c106, rfl, hO106, hK106, hQ106⟩
          have hz106 := hK106.size
          replace hE := hE.app hK106 (fun q hq => by have h1 := (hP106.block q hq).1; have h2 := (hNA.ids.2 q hq).1; omega)
          replace hRL4 := hRL4.app hK106 (fun q hq => by have h1 := (hP106.block q hq).1; have h2 := (hNA.ids.2 q hq).1; omega)
          replace hDd28 := hDd28.app hK106 (fun q hq => by have h1 := (hP106.block q hq).1; have h2 := (hNA.ids.2 q hq).1; omega)
          have hP106 := hO106
          replace hNA := (hNA.appIds (ys := [A.ids[j]]) hK106 (by rw [List.map_append]; exact hO106) (by rw [List.length_append]; rfl) hQ106 (by omega)).to (show _ = (⟨RS ++ [P], A.ids.take (j + 1), A.inputs.take (j + 1)⟩ : Net) by rw [← take_snoc hjI])
          refine ⟨⟨hDd28, trivial⟩, ?_⟩
          refine PZ_q rfl rfl rfl (fun wq hq => ev_fieldAddr fo31_1 rfl) ?_
          replace hA := hA.rg hDd28 (by omega)
          replace hN := hN.rg hDd28 (by omega)
          replace hB3 := hB3.rg hDd28 (by omega)
          replace hB6 := hB6.rg hDd28 (by omega)
          replace hM := hM.rg hDd28 (by omega)
          replace hB7 := hB7.rg hDd28 (by omega)
          replace hr59 := hr59.rg hDd28 (by omega)
          refine PZ_z rfl (ev_store sz23 rfl rfl rfl hB7 (by simp)) ?_
          rintro _ w28_10 hS28_10
          have hz28_10 := hS28_10.size
          replace hE := hE.sto hS28_10 (by omega)
          replace hRL4 := hRL4.sto hS28_10 (by omega)
          replace hA := hA.sto hS28_10 (by omega)
          replace hN := hN.sto hS28_10 (by omega)
          replace hB3 := hB3.sto hS28_10 (by omega)
          replace hB6 := hB6.sto hS28_10 (by omega)
          replace hM := hM.sto hS28_10 (by omega)
          replace hr59 := hr59.sto hS28_10 (by omega)
          replace hNA := hNA.sto hS28_10 (by omega)
          replace hB7 : Blk w28_10 _ _ [_, _, _] := hS28_10.blk
          rw [show (A.ids.take j).length + 1 = (A.ids.take (j + 1)).length by rw [List.length_take, List.length_take]; omega] at hB7
          refine PW_nil ?_
          refine blockE_n ?_
          refine thenE_n ?_
          refine W_region ?_
          refine WL_q rfl (ev_add rfl rfl (by omega)) ?_
          refine WL_q rfl (ev_move rfl) ?_
          refine WL_nil ?_
          refine thenE_n ?_
          exact ⟨(j + 1, a82, c82, a106, c106, a92, c92, vs ++ [(a6, c6)], RS ++ [P]), (Subs.c rfl (Subs.c rfl (Subs.c rfl (Subs.c rfl (Subs.c rfl (Subs.c rfl (Subs.c rfl Subs.n))))))), (Subs.c (lkI rfl (by omega)) Subs.n), ⟨hRL4, ⟨by omega, hB7, hNA.up (by omega), cutP_snoc hCP (by rw [getD_eq hltj]; exact hPk)⟩⟩, by first | omega | (dsimp only; omega)⟩
        · have hp97 := of_decide_eq_false hg97
          refine W_skip ?_
          refine blockE_n ?_
          refine thenE_n ?_
          refine W_region ?_
          refine WL_q rfl (ev_add rfl rfl (by omega)) ?_
          refine WL_q rfl (ev_move rfl) ?_
          refine WL_nil ?_
          refine thenE_n ?_
          have hI0 : A.ids = [] := List.length_eq_zero_iff.1 (by omega)
          have e9 : A.ids.take j = A.ids.take (j + 1) := by rw [hI0]; simp
          rw [e9] at hB7
          replace hNA := hNA.to (show (⟨RS ++ [P], A.ids.take j, A.inputs.take (j + 1)⟩ : Net) = ⟨RS ++ [P], A.ids.take (j + 1), A.inputs.take (j + 1)⟩ by rw [e9])
          exact ⟨(j + 1, a82, c82, a2, c2, a92, c92, vs ++ [(a6, c6)], RS ++ [P]), (Subs.c rfl (Subs.c rfl (Subs.c rfl (Subs.c rfl (Subs.c rfl (Subs.c rfl (Subs.c rfl Subs.n))))))), (Subs.c (lkI rfl (by omega)) Subs.n), ⟨hRL4, ⟨by omega, hB7, hNA.up (by omega), cutP_snoc hCP (by rw [getD_eq hltj]; exact hPk)⟩⟩, by first | omega | (dsimp only; omega)⟩
    · have hp53 := of_decide_eq_false hg53
      refine W_exit ?_
      refine thenE_x ?_
      refine thenE_x ?_
      refine blockE_hit ?_
      refine thenE_n ?_
      refine W_seq ?_
      refine W_region ?_
      refine WL_q rfl (ev_loads st31 sz31 rfl (cellsB hB7) rfl) ?_
      refine WL_s (ev_stores sz31 rfl rfl rfl (by simp [Value.oneCell']) hB6 (by simp)) ?_
      rintro _ w30_1 hS30_1
      have hz30_1 := hS30_1.size
      replace hE := hE.sto hS30_1 (by omega)
      replace hA := hA.sto hS30_1 (by omega)
      replace hN := hN.sto hS30_1 (by omega)
      replace hB3 := hB3.sto hS30_1 (by omega)
      replace hM := hM.sto hS30_1 (by omega)
      replace hB7 := hB7.sto hS30_1 (by omega)
      replace hNA := hNA.sto hS30_1 (by omega)
      replace hB6 : Blk w30_1 _ _ [_, _, _] := hS30_1.blk
      refine WL_nil ?_
      refine thenE_n ?_
      refine W_ret ?_
      refine retc rfl rfl st31 sz31 (cellsB hB6) rfl ?_
      have hj9 : j = A.ends.length := by omega
      subst hj9
      have hct := cutP_tot hCP (fun v => by by_cases hv : v < A.ends.length; (rw [getD_eq hv]; exact h6 _ (List.getElem_mem hv)); (simp [List.getD, List.getElem?_eq_none (Nat.le_of_not_lt hv)]))
      exact ⟨⟨a, c, a2, c2, a3, c3⟩, ⟨RS, A.ids.take A.ends.length, A.inputs.take A.ends.length⟩, rfl, hNA.is.mono2 (by omega) (by omega), cutP_of hCP, by show totL RS + (A.ids.take A.ends.length).length + (A.inputs.take A.ends.length).length ≤ 1048576; simp only [List.length_take]; omega, hE⟩

end Go.Proofs.Ytnngpblegbjfdaa
