/- The walks of FnExactIsForest and FnExactIsTree. -/
import Derived.Test.YtnngpblegbjfdaaForest2
namespace Go.Proofs.Ytnngpblegbjfdaa
open Go Go.RowKit

theorem getD_set' {α : Type} {l : List α} {a v : Nat} {b d : α} (h : a < l.length) : (l.set a b).getD v d = if a = v then b else l.getD v d := by
  by_cases e : a = v
  · subst e; rw [if_pos rfl, getD_set_self h]
  · rw [if_neg e, getD_set_ne e]
/-- All ports but two. -/
def offK (K : List (List Bool)) (x k y j : Nat) : List (List Bool) := (K.set x ((K.getD x []).set k false)).set y (((K.set x ((K.getD x []).set k false)).getD y []).set j false)
theorem offK_at {ends : Ends} {x k y j : Nat} (hx : x < ends.length) (hk : k < ends[x].length) (hy : y < ends.length) (hj : j < ends[y].length) {v i : Nat} (hv : v < ends.length) (hi : i < ends[v].length) :
    ((offK (allK ends ends.length) x k y j).getD v []).getD i false = (!(decide (v = x ∧ i = k)) && !(decide (v = y ∧ i = j))) := by
  have hl : (allK ends ends.length).length = ends.length := allK_len (Nat.le_refl _)
  have row : ∀ u (hu : u < ends.length), (allK ends ends.length).getD u [] = List.replicate ends[u].length true := fun u hu => by
    rw [getD_eq (by omega)]; simp [allK]
  have e1 : ∀ u (hu : u < ends.length) m (hm : m < ends[u].length), (((allK ends ends.length).set x (((allK ends ends.length).getD x []).set k false)).getD u []).getD m false = !(decide (u = x ∧ m = k)) := fun u hu m hm => by
    rw [getD_set' (by omega)]
    by_cases hux : x = u
    · subst hux
      rw [if_pos rfl, row x hx, getD_set' (by simpa using hk)]
      by_cases hmk : k = m
      · subst hmk; simp
      · rw [if_neg hmk, getD_eq (by simpa using hm)]; simp [Ne.symm hmk]
    · rw [if_neg hux, row u hu, getD_eq (by simpa using hm)]; simp [Ne.symm hux]
  have hl2 : ((allK ends ends.length).set x (((allK ends ends.length).getD x []).set k false)).length = ends.length := by rw [List.length_set]; exact hl
  have len2 : ∀ u (hu : u < ends.length), (((allK ends ends.length).set x (((allK ends ends.length).getD x []).set k false)).getD u []).length = ends[u].length := fun u hu => by
    rw [getD_set' (by omega)]
    by_cases hux : x = u
    · subst hux; rw [if_pos rfl, row x hx]; simp
    · rw [if_neg hux, row u hu]; simp
  unfold offK
  rw [getD_set' (by omega)]
  by_cases hvy : y = v
  · subst hvy
    rw [if_pos rfl, getD_set' (by rw [len2 y hy]; exact hj)]
    by_cases hij : j = i
    · subst hij; simp
    · rw [if_neg hij, e1 y hy i hi]; simp [Ne.symm hij]
  · rw [if_neg hvy, e1 v hv i hi]; simp [Ne.symm hvy]
theorem offK_len (K : List (List Bool)) (x k y j : Nat) : (offK K x k y j).length = K.length := by simp [offK]
theorem offK_row {ends : Ends} {x k y j : Nat} (hx : x < ends.length) (hy : y < ends.length) {v : Nat} (hv : v < ends.length) (h2 : v < (offK (allK ends ends.length) x k y j).length) : (offK (allK ends ends.length) x k y j)[v].length = ends[v].length := by
  have hl : (allK ends ends.length).length = ends.length := allK_len (Nat.le_refl _)
  have row : ∀ u (hu : u < ends.length), ((allK ends ends.length).getD u []).length = ends[u].length := fun u hu => by
    rw [getD_eq (by omega)]; simp [allK]
  have e1 : ∀ u (hu : u < ends.length), (((allK ends ends.length).set x (((allK ends ends.length).getD x []).set k false)).getD u []).length = ends[u].length := fun u hu => by
    rw [getD_set' (by omega)]
    by_cases hux : x = u
    · subst hux; rw [if_pos rfl, List.length_set, row x hx]
    · rw [if_neg hux, row u hu]
  have : ((offK (allK ends ends.length) x k y j).getD v []).length = ends[v].length := by
    unfold offK
    rw [getD_set' (by rw [List.length_set]; omega)]
    by_cases hvy : y = v
    · subst hvy; rw [if_pos rfl, List.length_set, e1 y hy]
    · rw [if_neg hvy, e1 v hv]
  rw [getD_eq h2] at this; exact this
/-- The distance to the other side without one edge. -/
def avo (ends : Ends) (x k : Nat) : Int := (bfs (cutE ends (offE x k ((ends.getD x []).getD k (0, 0)))) (x : Int)).getD ((ends.getD x []).getD k (0, 0)).1.toNat 0
theorem avo_of {A : Net} (h : NOk A) {x k : Nat} (hx : x < A.ends.length) (hk : k < A.ends[x].length) {N : Ends} (hc : CutOf A.ends N fun v i => ((offK (allK A.ends A.ends.length) x k A.ends[x][k].1.toNat A.ends[x][k].2.toNat).getD v []).getD i false) : (bfs N (x : Int)).getD A.ends[x][k].1.toNat 0 = avo A.ends x k := by
  obtain ⟨h1, h2, h3, h4, h5⟩ := h.endOk hx hk
  have e : A.ends[x][k] = (A.ends.getD x []).getD k (0, 0) := by rw [getD_eq hx, getD_eq hk]
  have hc2 : CutOf A.ends N (offE x k A.ends[x][k]) := hc.congr fun v hv i hi => by
    rw [offK_at hx hk h2 h4 hv hi]
    unfold offE
    congr 2
    apply decide_eq_decide.2
    omega
  unfold avo
  rw [← e, hc2.bfs]
theorem avo_rng {A : Net} (h : NOk A) {x k : Nat} (hx : x < A.ends.length) (hk : k < A.ends[x].length) : -1 ≤ avo A.ends x k ∧ avo A.ends x k < A.ends.length := by
  obtain ⟨h1, h2, h3, h4, h5⟩ := h.endOk hx hk
  have e : A.ends[x][k] = (A.ends.getD x []).getD k (0, 0) := by rw [getD_eq hx, getD_eq hk]
  have hc := cutE_of A.ends (offE x k A.ends[x][k])
  have hko := cut_endsOk h.ports hc
  have := bfs_lt hko (r := (x : Int)) (by omega) (by rw [hc.len]; simpa using hx) (v := A.ends[x][k].1.toNat) (by rw [hc.len]; exact h2)
  rw [hc.len] at this
  unfold avo
  rw [← e]; exact this
/-- The least positive one of some numbers, or 0. -/
def GMin (S : Int → Prop) (o : Int) : Prop := (o = 0 ∧ ∀ x, S x → x ≤ 0) ∨ (0 < o ∧ S o ∧ ∀ x, S x → 0 < x → o ≤ x)
theorem GMin.pos {S : Int → Prop} {o : Int} (h : GMin S o) : 0 ≤ o := by rcases h with h | h <;> omega
theorem GMin.congr {S S' : Int → Prop} {o : Int} (h : GMin S o) (e : ∀ x, S x ↔ S' x) : GMin S' o := by
  rcases h with ⟨h1, h2⟩ | ⟨h1, h2, h3⟩
  · exact .inl ⟨h1, fun x hx => h2 x ((e x).2 hx)⟩
  · exact .inr ⟨h1, (e o).1 h2, fun x hx => h3 x ((e x).2 hx)⟩
theorem GMin.new {S S' : Int → Prop} {o x : Int} (h : GMin S o) (e : ∀ y, S' y ↔ S y ∨ y = x) (h0 : 0 < x) (h1 : o = 0 ∨ x < o) : GMin S' x := by
  refine .inr ⟨h0, (e x).2 (.inr rfl), fun y hy hp => ?_⟩
  rcases (e y).1 hy with hy | rfl
  · rcases h with ⟨g1, g2⟩ | ⟨g1, g2, g3⟩
    · have := g2 y hy; omega
    · have := g3 y hy hp; omega
  · omega
theorem GMin.old {S S' : Int → Prop} {o x : Int} (h : GMin S o) (e : ∀ y, S' y ↔ S y ∨ y = x) (h1 : x ≤ 0 ∨ (o ≠ 0 ∧ o ≤ x)) : GMin S' o := by
  rcases h with ⟨g1, g2⟩ | ⟨g1, g2, g3⟩
  · refine .inl ⟨g1, fun y hy => ?_⟩
    rcases (e y).1 hy with hy | rfl
    · exact g2 y hy
    · omega
  · refine .inr ⟨g1, (e o).2 (.inl g2), fun y hy hp => ?_⟩
    rcases (e y).1 hy with hy | rfl
    · exact g3 y hy hp
    · omega
theorem GMin.uniq {S S' : Int → Prop} {o o' : Int} (h : GMin S o) (k : GMin S' o') (e : ∀ x, 0 < x → (S x ↔ S' x)) : o = o' := by
  rcases h with ⟨g1, g2⟩ | ⟨g1, g2, g3⟩ <;> rcases k with ⟨k1, k2⟩ | ⟨k1, k2, k3⟩
  · omega
  · have := g2 o' ((e o' k1).2 k2); omega
  · have := k2 o ((e o g1).1 g2); omega
  · have h1 := g3 o' ((e o' k1).2 k2) k1
    have h2 := k3 o ((e o g1).1 g2) g1
    omega
/-- The lengths of cycles through ports, before port k of node i. -/
def SA (ends : Ends) (i k : Nat) (y : Int) : Prop := ∃ v j, ∃ hv : v < ends.length, ∃ hj : j < ends[v].length, (v < i ∨ (v = i ∧ j < k)) ∧ ends[v][j] ≠ ((v : Int), (j : Int)) ∧ y = avo ends v j + 1
theorem SA_zero {ends : Ends} {y : Int} : ¬ SA ends 0 0 y := by rintro ⟨v, j, hv, hj, h, _⟩; omega
theorem SA_next {ends : Ends} {i : Nat} (h : i < ends.length) (y : Int) : SA ends i ends[i].length y ↔ SA ends (i + 1) 0 y := by
  constructor
  · rintro ⟨v, j, hv, hj, h1, h2⟩; exact ⟨v, j, hv, hj, by omega, h2⟩
  · rintro ⟨v, j, hv, hj, h1, h2⟩
    refine ⟨v, j, hv, hj, ?_, h2⟩
    by_cases e : v = i
    · subst e; exact .inr ⟨rfl, hj⟩
    · exact .inl (by omega)
theorem SA_skip {ends : Ends} {i k : Nat} (h : i < ends.length) (hk : k < ends[i].length) (hs : ends[i][k] = ((i : Int), (k : Int))) (y : Int) : SA ends i k y ↔ SA ends i (k + 1) y := by
  constructor
  · rintro ⟨v, j, hv, hj, h1, h2⟩; exact ⟨v, j, hv, hj, by omega, h2⟩
  · rintro ⟨v, j, hv, hj, h1, h2, h3⟩
    refine ⟨v, j, hv, hj, ?_, h2, h3⟩
    by_cases e : v = i ∧ j = k
    · obtain ⟨e1, e2⟩ := e; subst e1; subst e2; exact absurd hs h2
    · omega
theorem SA_put {ends : Ends} {i k : Nat} (h : i < ends.length) (hk : k < ends[i].length) (hs : ends[i][k] ≠ ((i : Int), (k : Int))) (y : Int) : SA ends i (k + 1) y ↔ SA ends i k y ∨ y = avo ends i k + 1 := by
  constructor
  · rintro ⟨v, j, hv, hj, h1, h2, h3⟩
    by_cases e : v = i ∧ j = k
    · obtain ⟨e1, e2⟩ := e; subst e1; subst e2; exact .inr h3
    · exact .inl ⟨v, j, hv, hj, by omega, h2, h3⟩
  · rintro (⟨v, j, hv, hj, h1, h2⟩ | e)
    · exact ⟨v, j, hv, hj, by omega, h2⟩
    · exact ⟨i, k, h, hk, .inr ⟨rfl, by omega⟩, hs, e⟩
/-- A forest. -/
def FOR (A : Net) : Prop := NoStub A.ends ∧ rootsN A.ends A.ends.length + (edL A.ends).length = A.ends.length
theorem girth_zero {A : Net} (h : NOk A) (hs : NoStub A.ends) {g : Int} (hg : GMin (SA A.ends A.ends.length 0) g) : g = 0 ↔ rootsN A.ends A.ends.length + (edL A.ends).length = A.ends.length := by
  rw [forest_law h.ports (fun v i => cutE A.ends (offE v i ((A.ends.getD v []).getD i (0, 0)))) (fun v hv i hi => by rw [getD_eq hv, getD_eq hi]; exact cutE_of _ _)]
  have ev : ∀ v (hv : v < A.ends.length) i (hi : i < A.ends[v].length), (bfs (cutE A.ends (offE v i ((A.ends.getD v []).getD i (0, 0)))) (v : Int)).getD A.ends[v][i].1.toNat 0 = avo A.ends v i := fun v hv i hi => by
    unfold avo
    rw [show A.ends[v][i] = (A.ends.getD v []).getD i (0, 0) by rw [getD_eq hv, getD_eq hi]]
  constructor
  · intro e v hv i hi
    rw [ev v hv i hi]
    rcases hg with ⟨_, g2⟩ | ⟨g1, _, _⟩
    · have := g2 _ ⟨v, i, hv, hi, .inl hv, hs v hv i hi, rfl⟩; omega
    · omega
  · intro hall
    rcases hg with ⟨g1, _⟩ | ⟨g1, ⟨v, i, hv, hi, _, _, e⟩, _⟩
    · exact g1
    · have := hall v hv i hi
      rw [ev v hv i hi] at this
      omega
theorem noStub_yes {ends : Ends} {i : Nat} (hJ : ∀ v, v < i → ∀ j, (ends.getD v []).getD j (-1, -1) ≠ ((v : Int), (j : Int))) (hi : ends.length ≤ i) : NoStub ends := fun v hv j hj => by
  have := hJ v (by omega) j
  rwa [getD_eq hv, getD_eq hj] at this
def St (q : Quad) : Prop := q.1 = q.2.2.1 ∧ q.2.1 = q.2.2.2
instance (q : Quad) : Decidable (St q) := by unfold St; infer_instance
theorem st_edges {ends : Ends} : (∃ q ∈ edL ends, St q) ↔ ¬ NoStub ends := by
  constructor
  · rintro ⟨q, hq, h1, h2⟩ hn
    obtain ⟨v, hv, i, hi, _, rfl⟩ := edL_mem.1 hq
    exact hn v hv i hi (Prod.ext h1.symm h2.symm)
  · intro h
    refine Classical.byContradiction fun hno => h fun v hv i hi e => hno ?_
    exact ⟨_, edL_mem.2 ⟨v, hv, i, hi, by rw [e]; exact .inr ⟨rfl, Int.le_refl _⟩, rfl⟩, by rw [e]; exact ⟨rfl, rfl⟩⟩
theorem roots_yes {ends : Ends} (hk : EndsOk ends) (hs : SymE ends) (h40 : ends.length ≤ 40) {i : Nat} (h : i < (prt ends).length) (e : (i : Int) = (prt ends)[i]) : rootsN ends (i + 1) = rootsN ends i + 1 := by
  rw [rootsN_succ, if_pos (by rw [cmp_prt hk hs h40, getD_eq h]; exact e.symm)]
theorem roots_no {ends : Ends} (hk : EndsOk ends) (hs : SymE ends) (h40 : ends.length ≤ 40) {i : Nat} (h : i < (prt ends).length) (e : ¬ (i : Int) = (prt ends)[i]) : rootsN ends (i + 1) = rootsN ends i := by
  rw [rootsN_succ, if_neg (by rw [cmp_prt hk hs h40, getD_eq h]; exact fun k => e k.symm)]; rfl
theorem roots_le (ends : Ends) (n : Nat) : rootsN ends n ≤ n := by unfold rootsN; exact Nat.le_trans (List.length_filter_le _ _) (by simp)

set_option maxHeartbeats 1000000 in
set_option maxRecDepth 100000 in
theorem meAvoid_spec {loA hiA : Nat} (nA : NA) (A : Net) (x k : Nat) (w : World) (hA : IsNet loA hiA w nA A) (hhiA : hiA ≤ w.heap.size) (hnA : totN A ≤ 1048576) (hkA : NOk A) (hx : x < A.ends.length) (hk2 : k < A.ends[x].length) :
    Fn Try.prog 34 #[netV nA A, VI (x : Int), VI (k : Int)] w (fun o9 w' => o9 = VI (avo A.ends x k) ∧ Ext w w') := by
  have hqA := totL_len A.ends
  have hmA : totL A.ends + A.ids.length + A.inputs.length ≤ 1048576 := hnA
  have hndA := hkA.nodes
  have hk := hkA.endsOk
  have h6 := hkA.six
  have hidA : A.ids.length ≤ 40 := by rcases hkA.ids with h1 | h1; omega; have := h1.1; omega
  have hinA := hkA.inLen
  obtain ⟨he1, he2, he3, he4, he5⟩ := hkA.endOk hx hk2
  have hal := allK_len (ends := A.ends) (i := A.ends.length) (Nat.le_refl _)
  have hxx := h6 _ (List.getElem_mem hx)
  have hyy := h6 _ (List.getElem_mem he2)
  have hE := Ext.refl w
  refine Fn_of Try.func34 rfl rfl (by kernel_rfl) rfl ?_
  refine W_seq ?_
  refine W_region ?_
  refine WL_m rfl (ev_box rfl) ?_
  rintro _ w3 ⟨rfl, hN3⟩
  have hz3 := hN3.size
  replace hE := hE.trans hN3.ext
  replace hA := hA.ext hN3.ext
  have hB3 : Blk w3 _ _ [_, _, _] := hN3.blk
  refine WL_q rfl (ev_assign rfl) ?_
  refine WL_nil ?_
  refine thenE_n ?_
  refine W_seq ?_
  refine W_region ?_
  refine WL_q rfl (ev_fieldAddr fo31_0 rfl) ?_
  refine WL_q rfl (ev_load one29 rfl (hB3.cell rfl)) ?_
  refine WL_q rfl (ev_move rfl) ?_
  have hl12 : x < A.ends.length := by omega
  have ht12 := totL_le hl12
  obtain ⟨a12, c12, hc12, hr12⟩ := hA.ends.row hl12
  refine WL_q rfl (ev_indexAddr Try.underlying29 sz55 rfl rfl (hA.ends.isSome (by omega)) (by omega) (by omega)) ?_
  refine WL_q rfl (ev_load one55 rfl (hc12)) ?_
  refine WL_q rfl (ev_move rfl) ?_
  refine WL_q rfl (ev_indexAddr Try.underlying55 sz57 rfl rfl (hr12.isSome (by omega)) (by omega) (by omega)) ?_
  refine WL_q rfl (ev_loads st57 sz57 rfl (hr12.cells (i := k) (by omega)) rfl) ?_
  refine WL_m rfl (ev_alloc zr57) ?_
  rintro _ w7 ⟨rfl, hN7⟩
  have hz7 := hN7.size
  replace hE := hE.trans hN7.ext
  replace hA := hA.ext hN7.ext
  replace hB3 := hB3.ext hN7.ext
  replace hr12 := hr12.ext hN7.ext
  have hB7 : Blk w7 _ _ [_, _] := hN7.blk
  refine WL_s (ev_stores sz57 rfl rfl rfl (by simp [Value.oneCell']) hB7 (by simp)) ?_
  rintro _ w1_9 hS1_9
  have hz1_9 := hS1_9.size
  replace hE := hE.sto hS1_9 (by omega)
  replace hA := hA.sto hS1_9 (by omega)
  replace hB3 := hB3.sto hS1_9 (by omega)
  replace hr12 := hr12.sto hS1_9 (by omega)
  replace hB7 : Blk w1_9 _ _ [_, _] := hS1_9.blk
  refine WL_nil ?_
  refine thenE_n ?_
  refine W_seq ?_
  refine W_region ?_
  refine WL_q rfl (ev_loads st31 sz31 rfl (cellsB hB3) rfl) ?_
  refine WL_m rfl (ev_call rfl (neAll_spec _ A _ hA (by omega) (by omega))) ?_
  rintro _ w18 ⟨a18, c18, s18, rfl, hK18, hE18⟩
  have hz18 := hE18.size
  replace hE := hE.trans hE18
  replace hA := hA.ext hE18
  replace hB3 := hB3.ext hE18
  replace hr12 := hr12.ext hE18
  replace hB7 := hB7.ext hE18
  obtain ⟨gK, restK, hgK, hgl, hgr, hKo, hKg⟩ := hK18.open (by omega)
  subst hgK
  have hsl := hK18.len
  have hbx : x < s18.length := by omega
  have hKx : x < (allK A.ends A.ends.length).length := by omega
  have hrx := hK18.row x hbx hKx
  have hKb := hrx.2.2
  have hrx1 := hrx.1
  have hrx2 := hrx.2.1
  have hgx := hKg x hbx
  have hlx : ((allK A.ends A.ends.length)[x]).length = A.ends[x].length := by simp [allK]
  refine WL_q rfl (ev_assign rfl) ?_
  refine WL_nil ?_
  refine thenE_n ?_
  refine W_seq ?_
  refine W_region ?_
  refine WL_q rfl (ev_move rfl) ?_
  refine WL_q rfl (ev_move rfl) ?_
  refine WL_q rfl (ev_indexAddr Try.underlying71 sz73 rfl rfl rfl (by omega) (by omega)) ?_
  refine WL_q rfl (ev_load one73 rfl (hKo.cellAt (bval_at hbx hKx) (by simp))) ?_
  refine WL_q rfl (ev_move rfl) ?_
  refine WL_q rfl (ev_indexAddr Try.underlying73 sz4 rfl rfl rfl (by omega) (by omega)) ?_
  have hK0 := hK18
  refine WL_s (ev_store sz4 rfl rfl rfl hKb (by simp; omega)) ?_
  rintro _ w3_6 hS3_6
  have hz3_6 := hS3_6.size
  replace hE := hE.sto hS3_6 (by omega)
  replace hA := hA.sto hS3_6 (by omega)
  replace hB3 := hB3.sto hS3_6 (by omega)
  replace hr12 := hr12.sto hS3_6 (by omega)
  replace hB7 := hB7.sto hS3_6 (by omega)
  replace hKo := hKo.sto hS3_6 (by omega)
  replace hKb := hS3_6.blk
  replace hKb := bset (i := k) (by simp) hKb
  have hK2 := hK0.set (j := k) (x := false) hbx hKx rfl hS3_6 hKb
  refine WL_nil ?_
  refine thenE_n ?_
  refine W_seq ?_
  refine W_drawZ 8 w3.heap.size w3.heap.size 0 0 (fun w' => True) [(0, true), (1, true), (2, true), (3, true), (4, true), (5, true), (6, true), (7, true), (8, false)] mixed (by kernel_rfl) rfl (by kernel_rfl) (fun _ _ => trivial) ?_
  intro wd4 hEd4 hzd4
  replace hE := hE.trans hEd4
  replace hA := hA.ext hEd4
  replace hB3 := hB3.ext hEd4
  replace hr12 := hr12.ext hEd4
  replace hB7 := hB7.ext hEd4
  replace hKo := hKo.ext hEd4
  replace hK2 := hK2.ext hEd4
  have hby : A.ends[x][k].1.toNat < s18.length := by omega
  have hKy1 : A.ends[x][k].1.toNat < (allK A.ends A.ends.length).length := by omega
  have hKy : A.ends[x][k].1.toNat < ((allK A.ends A.ends.length).set x (((allK A.ends A.ends.length)[x]).set k false)).length := by rw [List.length_set]; omega
  have hry := hK2.row _ hby hKy
  have hKc := hry.2.2
  have hry1 := hry.1
  have hry2 := hry.2.1
  have hgy := hKg _ hby
  have hly1 : ((allK A.ends A.ends.length)[A.ends[x][k].1.toNat]).length = A.ends[A.ends[x][k].1.toNat].length := by simp [allK]
  have hly2 : (((allK A.ends A.ends.length).set x (((allK A.ends A.ends.length)[x]).set k false))[A.ends[x][k].1.toNat]).length = A.ends[A.ends[x][k].1.toNat].length := by by_cases e : x = A.ends[x][k].1.toNat; (simp only [← e, List.getElem_set_self, List.length_set]; simp [allK]); (rw [List.getElem_set_ne e]; exact hly1)
  have hDd4 := (Rg.refl : Rg w3.heap.size w3.heap.size 0 0 wd4 wd4)
  refine PZ_q rfl rfl rfl (fun wq hq => ev_move rfl) ?_
  refine PZ_q rfl rfl rfl (fun wq hq => ev_fieldAddr fo57_0 rfl) ?_
  refine PZ_q rfl rfl rfl (fun wq hq => ev_load one3 rfl ((hB7.rg hq.1 (by omega)).cell rfl)) ?_
  refine PZ_q rfl rfl rfl (fun wq hq => ev_indexAddr Try.underlying71 sz73 rfl rfl rfl (by omega) (by omega)) ?_
  refine PZ_q rfl rfl rfl (fun wq hq => ev_load one73 rfl (hq.1.cell' (hKo.cellAt (bval_at hby hKy1) (by simp)) (by omega))) ?_
  refine PZ_q rfl rfl rfl (fun wq hq => ev_fieldAddr fo57_1 rfl) ?_
  refine PZ_q rfl rfl rfl (fun wq hq => ev_load one3 rfl ((hB7.rg hq.1 (by omega)).cell rfl)) ?_
  refine PZ_q rfl rfl rfl (fun wq hq => ev_indexAddr Try.underlying73 sz4 rfl rfl rfl (by omega) (by omega)) ?_
  have hK20 := hK2
  refine PZ_z rfl (ev_store sz4 rfl rfl rfl hKc (by simp; omega)) ?_
  rintro _ w4_8 hS4_8
  have hz4_8 := hS4_8.size
  replace hE := hE.sto hS4_8 (by omega)
  replace hA := hA.sto hS4_8 (by omega)
  replace hB3 := hB3.sto hS4_8 (by omega)
  replace hr12 := hr12.sto hS4_8 (by omega)
  replace hB7 := hB7.sto hS4_8 (by omega)
  replace hKo := hKo.sto hS4_8 (by omega)
  replace hKc := hS4_8.blk
  replace hKc := bset (i := A.ends[x][k].2.toNat) (by simp) hKc
  have hK3 := (hK20.set (j := A.ends[x][k].2.toNat) (x := false) hby hKy rfl hS4_8 hKc).to (show _ = offK (allK A.ends A.ends.length) x k A.ends[x][k].1.toNat A.ends[x][k].2.toNat by unfold offK; rw [getD_eq hKx, getD_eq hKy])
  refine PW_nil ?_
  refine thenE_n ?_
  refine W_seq ?_
  refine W_drawV w3.heap.size w3.heap.size 0 0 [(0, true), (1, true), (3, true), (5, true), (6, true), (2, false), (4, false), (7, true), (8, true), (9, true)] mixed (by kernel_rfl) rfl (by kernel_rfl) ?_
  intro wd5 hEd5 hzd5
  replace hE := hE.trans hEd5
  replace hA := hA.ext hEd5
  replace hB3 := hB3.ext hEd5
  replace hr12 := hr12.ext hEd5
  replace hB7 := hB7.ext hEd5
  replace hKo := hKo.ext hEd5
  replace hK3 := hK3.ext hEd5
  have hDd5 := (Rg.refl : Rg w3.heap.size w3.heap.size 0 0 wd5 wd5)
  refine PV_q rfl rfl (fun wq hq => ev_loads st31 sz31 rfl (cellsB (hB3.rg hq.1 (by omega))) rfl) ?_
  refine PV_q rfl rfl (fun wq hq => ev_move rfl) ?_
  refine PV_q rfl rfl (fun wq hq => ev_move rfl) ?_
  refine PV_q rfl rfl (fun wq hq => ev_fieldAddr fo57_0 rfl) ?_
  refine PV_q rfl rfl (fun wq hq => ev_load one3 rfl ((hB7.rg hq.1 (by omega)).cell rfl)) ?_
  refine PV_m w3.heap.size w3.heap.size 0 0 rfl rfl (ev_call rfl (neCut_spec _ A _ _ s18 (offK (allK A.ends A.ends.length) x k A.ends[x][k].1.toNat A.ends[x][k].2.toNat) _ hA (by omega) (by omega) hK3 (by omega) hkA (by rw [offK_len]; omega) (fun v hv h2 => offK_row hx he2 hv h2))) ?_
  rintro _ w35 ⟨h35, N35, rfl, hN35, hC35, hn35, hE35⟩
  have hz35 := hE35.size
  replace hE := hE.trans hE35
  replace hDd5 := hDd5.trans hE35
  replace hA := hA.ext hE35
  replace hB3 := hB3.ext hE35
  replace hr12 := hr12.ext hE35
  replace hB7 := hB7.ext hE35
  replace hKo := hKo.ext hE35
  replace hK3 := hK3.ext hE35
  have hNl := hC35.len
  have hkN := cut_endsOk hkA.ports hC35
  have hbl := bfs_len hkN (v := (x : Int)) (by omega) (by omega)
  refine ⟨fun _ hx => ⟨hDd5.rg hx (by omega), trivial⟩, ?_⟩
  have hDd5 := (Rg.refl : Rg w3.heap.size w3.heap.size 0 0 w35 w35)
  refine PV_m w3.heap.size w3.heap.size 0 0 rfl rfl (ev_call rfl (meFrom_spec _ N35 (x : Int) _ hN35 (by omega) (by omega) hkN (by omega))) ?_
  rintro _ w37 ⟨a37, c37, rfl, hO37, hE37⟩
  have hz37 := hE37.size
  replace hE := hE.trans hE37
  replace hDd5 := hDd5.trans hE37
  replace hA := hA.ext hE37
  replace hB3 := hB3.ext hE37
  replace hr12 := hr12.ext hE37
  replace hB7 := hB7.ext hE37
  replace hKo := hKo.ext hE37
  replace hK3 := hK3.ext hE37
  replace hN35 := hN35.ext hE37
  refine ⟨fun _ hx => ⟨hDd5.rg hx (by omega), trivial⟩, ?_⟩
  have hDd5 := (Rg.refl : Rg w3.heap.size w3.heap.size 0 0 w37 w37)
  refine PV_q rfl rfl (fun wq hq => ev_indexAddr Try.underlying23 sz3 rfl rfl ((own_i hO37).isSome (by omega)) (by omega) (by omega)) ?_
  refine PV_q rfl rfl (fun wq hq => ev_load one3 rfl (((own_i hO37).rg hq.1 (by omega)).cellJ (i := A.ends[x][k].1.toNat) (j := A.ends[x][k].1.toNat) (by omega) (by omega))) ?_
  refine PV_q rfl rfl (fun wq hq => ev_assign rfl) ?_
  refine PV_nil ?_
  refine thenE_n ?_
  refine W_ret ?_
  refine ret1 rfl rfl ?_
  refine ⟨vi ?_, hE⟩; rw [← avo_of hkA hx hk2 hC35, getD_eq]

set_option maxHeartbeats 1000000 in
set_option maxRecDepth 100000 in
theorem meGirth_spec {loA hiA : Nat} (nA : NA) (A : Net) (w : World) (hA : IsNet loA hiA w nA A) (hhiA : hiA ≤ w.heap.size) (hnA : totN A ≤ 1048576) (hkA : NOk A) :
    Fn Try.prog 19 #[netV nA A] w (fun o9 w' => ∃ g, o9 = VI g ∧ GMin (SA A.ends A.ends.length 0) g ∧ Ext w w') := by
  have hqA := totL_len A.ends
  have hmA : totL A.ends + A.ids.length + A.inputs.length ≤ 1048576 := hnA
  have hndA := hkA.nodes
  have hk := hkA.endsOk
  have h6 := hkA.six
  have hidA : A.ids.length ≤ 40 := by rcases hkA.ids with h1 | h1; omega; have := h1.1; omega
  have hinA := hkA.inLen
  have hE := Ext.refl w
  refine Fn_of Try.func19 rfl rfl (by kernel_rfl) rfl ?_
  refine W_seq ?_
  refine W_region ?_
  refine WL_m rfl (ev_box rfl) ?_
  rintro _ w1 ⟨rfl, hN1⟩
  have hz1 := hN1.size
  replace hE := hE.trans hN1.ext
  replace hA := hA.ext hN1.ext
  have hB1 : Blk w1 _ _ [_, _, _] := hN1.blk
  refine WL_q rfl (ev_assign rfl) ?_
  refine WL_nil ?_
  refine thenE_n ?_
  refine W_seq ?_
  refine W_region ?_
  refine WL_q rfl (ev_assign rfl) ?_
  refine WL_nil ?_
  refine thenE_n ?_
  refine W_seq ?_
  refine W_seq ?_
  refine W_region ?_
  refine WL_q rfl (ev_fieldAddr fo31_0 rfl) ?_
  refine WL_q rfl (ev_load one29 rfl (hB1.cell rfl)) ?_
  refine WL_q rfl (ev_len Try.underlying29 rfl) ?_
  refine WL_q rfl (ev_move rfl) ?_
  refine WL_nil ?_
  refine thenE_n ?_
  refine W_block ?_
  refine W_loopC (G := Nat × Int) [(1, _), (10, _)] ((Subs.c rfl (Subs.c rfl Subs.n))) (fun ⟨i, g⟩ => [(3, VI g), (11, VI (i : Int))]) (fun ⟨i, g⟩ w' => Ext w1 w' ∧ (i ≤ A.ends.length ∧ g ≤ 41) ∧ GMin (SA A.ends i 0) g) (fun g => A.ends.length - g.1) (0, 0) ((Subs.c rfl (Subs.c (lkI rfl (by omega)) Subs.n))) (⟨Ext.refl _, ⟨⟨Nat.zero_le _, by omega⟩, .inl ⟨rfl, fun x hx => (SA_zero hx).elim⟩⟩⟩) ?_
  rintro ⟨i, g⟩ wL0 ⟨hRL0, ⟨hi', hg41⟩, hG⟩
  have hzL0 := hRL0.size
  replace hE := hE.trans hRL0
  replace hA := hA.ext hRL0
  replace hB1 := hB1.ext hRL0
  refine W_seq ?_
  refine W_region ?_
  refine WL_q rfl (ev_lss rfl rfl) ?_
  refine WL_nil ?_
  refine thenE_n ?_
  refine W_seq ?_
  refine W_cond rfl (fun hg12 => ?_) (fun hg12 => ?_)
  · have hp12 := of_decide_eq_true hg12
    refine W_skip ?_
    refine thenE_n ?_
    refine W_seq ?_
    refine W_block ?_
    refine W_seq ?_
    refine W_region ?_
    refine WL_q rfl (ev_move rfl) ?_
    refine WL_q rfl (ev_assign rfl) ?_
    refine WL_nil ?_
    refine thenE_n ?_
    refine W_seq ?_
    refine W_region ?_
    refine WL_q rfl (ev_fieldAddr fo31_0 rfl) ?_
    refine WL_q rfl (ev_load one29 rfl (hB1.cell rfl)) ?_
    refine WL_q rfl (ev_move rfl) ?_
    have hlt : i < A.ends.length := by omega
    have h6i := h6 _ (List.getElem_mem hlt)
    have hl17 : i < A.ends.length := by omega
    have ht17 := totL_le hl17
    obtain ⟨a17, c17, hc17, hr17⟩ := hA.ends.row hl17
    refine WL_q rfl (ev_indexAddr Try.underlying29 sz55 rfl rfl (hA.ends.isSome (by omega)) (by omega) (by omega)) ?_
    refine WL_q rfl (ev_load one55 rfl (hc17)) ?_
    refine WL_q rfl (ev_len Try.underlying55 rfl) ?_
    refine WL_q rfl (ev_move rfl) ?_
    refine WL_nil ?_
    refine thenE_n ?_
    refine W_block ?_
    refine W_loopC (G := Nat × Int) [(1, _), (4, _), (10, _), (11, _), (18, _), (19, _)] ((Subs.c rfl (Subs.c rfl (Subs.c rfl (Subs.c rfl (Subs.c rfl (Subs.c rfl Subs.n))))))) (fun ⟨k, g2⟩ => [(3, VI g2), (20, VI (k : Int))]) (fun ⟨k, g2⟩ w' => Ext wL0 w' ∧ (k ≤ A.ends[i].length ∧ g2 ≤ 41) ∧ GMin (SA A.ends i k) g2) (fun g => A.ends[i].length - g.1) (0, g) ((Subs.c rfl (Subs.c (lkI rfl (by omega)) Subs.n))) (⟨Ext.refl _, ⟨⟨Nat.zero_le _, hg41⟩, hG⟩⟩) ?_
    rintro ⟨k, g2⟩ wL2 ⟨hRL2, ⟨hk', hg42⟩, hG2⟩
    have hzL2 := hRL2.size
    replace hE := hE.trans hRL2
    replace hRL0 := hRL0.trans hRL2
    replace hA := hA.ext hRL2
    replace hB1 := hB1.ext hRL2
    replace hr17 := hr17.ext hRL2
    have hgp := hG2.pos
    refine W_seq ?_
    refine W_region ?_
    refine WL_q rfl (ev_lss rfl rfl) ?_
    refine WL_nil ?_
    refine thenE_n ?_
    refine W_seq ?_
    refine W_cond rfl (fun hg21 => ?_) (fun hg21 => ?_)
    · have hp21 := of_decide_eq_true hg21
      refine W_skip ?_
      refine thenE_n ?_
      refine W_seq ?_
      refine W_block ?_
      refine W_seq ?_
      refine W_region ?_
      refine WL_q rfl (ev_move rfl) ?_
      have hlk : k < A.ends[i].length := by omega
      have hav := avo_rng hkA hlt hlk
      refine WL_q rfl (ev_indexAddr Try.underlying55 sz57 rfl rfl (hr17.isSome (by omega)) (by omega) (by omega)) ?_
      refine WL_q rfl (ev_loads st57 sz57 rfl (hr17.cells (i := k) (by omega)) rfl) ?_
      refine WL_m rfl (ev_alloc zr57) ?_
      rintro _ w6 ⟨rfl, hN6⟩
      have hz6 := hN6.size
      replace hE := hE.trans hN6.ext
      replace hRL0 := hRL0.trans hN6.ext
      replace hRL2 := hRL2.trans hN6.ext
      replace hA := hA.ext hN6.ext
      replace hB1 := hB1.ext hN6.ext
      replace hr17 := hr17.ext hN6.ext
      have hB6 : Blk w6 _ _ [_, _] := hN6.blk
      refine WL_q rfl (ev_assign rfl) ?_
      refine WL_s (ev_stores sz57 rfl rfl rfl (by simp [Value.oneCell']) hB6 (by simp)) ?_
      rintro _ w7_5 hS7_5
      have hz7_5 := hS7_5.size
      replace hE := hE.sto hS7_5 (by omega)
      replace hRL0 := hRL0.sto hS7_5 (by omega)
      replace hRL2 := hRL2.sto hS7_5 (by omega)
      replace hA := hA.sto hS7_5 (by omega)
      replace hB1 := hB1.sto hS7_5 (by omega)
      replace hr17 := hr17.sto hS7_5 (by omega)
      replace hB6 : Blk w7_5 _ _ [_, _] := hS7_5.blk
      refine WL_nil ?_
      refine thenE_n ?_
      refine W_seq ?_
      refine W_seq ?_
      refine W_region ?_
      refine WL_q rfl (ev_loads st57 sz57 rfl (cellsB hB6) rfl) ?_
      refine WL_q rfl (ev_move rfl) ?_
      refine WL_q rfl (ev_move rfl) ?_
      refine WL_q rfl (ev_build2 sn57_2 rfl rfl rfl rfl) ?_
      refine WL_q rfl (ev_eql_pair pr57 rfl rfl) ?_
      refine WL_nil ?_
      refine thenE_n ?_
      refine W_cond rfl (fun hg29 => ?_) (fun hg29 => ?_)
      · have hp29 := of_decide_eq_true hg29
        refine W_exit ?_
        refine thenE_x ?_
        refine blockE_hit ?_
        refine thenE_n ?_
        refine W_region ?_
        refine WL_q rfl (ev_add rfl rfl (by omega)) ?_
        refine WL_q rfl (ev_move rfl) ?_
        refine WL_nil ?_
        refine thenE_n ?_
        exact ⟨(k + 1, g2), (Subs.c rfl (Subs.c rfl (Subs.c rfl (Subs.c rfl (Subs.c rfl (Subs.c rfl Subs.n)))))), (Subs.c rfl (Subs.c (lkI rfl (by omega)) Subs.n)), ⟨hRL2, ⟨⟨by omega, hg42⟩, hG2.congr (SA_skip hlt hlk (Prod.ext hp29.1 hp29.2))⟩⟩, by first | omega | (dsimp only; omega)⟩
      · have hp29 := of_decide_eq_false hg29
        refine W_skip ?_
        refine thenE_n ?_
        refine W_seq ?_
        refine W_region ?_
        refine WL_q rfl (ev_loads st31 sz31 rfl (cellsB hB1) rfl) ?_
        refine WL_q rfl (ev_move rfl) ?_
        refine WL_q rfl (ev_move rfl) ?_
        have hns : A.ends[i][k] ≠ ((i : Int), (k : Int)) := fun e => hp29 (by rw [e]; exact ⟨rfl, rfl⟩)
        refine WL_m rfl (ev_call rfl (meAvoid_spec _ A i k _ hA (by omega) (by omega) hkA hlt hlk)) ?_
        rintro _ w33 ⟨rfl, hE33⟩
        have hz33 := hE33.size
        replace hE := hE.trans hE33
        replace hRL0 := hRL0.trans hE33
        replace hRL2 := hRL2.trans hE33
        replace hA := hA.ext hE33
        replace hB1 := hB1.ext hE33
        replace hr17 := hr17.ext hE33
        replace hB6 := hB6.ext hE33
        refine WL_q rfl (ev_assign rfl) ?_
        refine WL_nil ?_
        refine thenE_n ?_
        refine W_seq ?_
        refine W_region ?_
        refine WL_q rfl (ev_move rfl) ?_
        refine WL_q rfl (ev_geq rfl rfl) ?_
        refine WL_q rfl (ev_move rfl) ?_
        refine WL_splitv (t := 36) rfl (fun hg35 => ?_) (fun hg35 => ?_)
        · have hp35 := of_decide_eq_true hg35
          refine WL_qg rfl rfl hg35 rfl (ev_move rfl) ?_
          refine WL_qg rfl rfl hg35 rfl (ev_eql rfl rfl) ?_
          refine WL_qg rfl rfl hg35 rfl (ev_move rfl) ?_
          refine WL_splitv (t := 39) rfl (fun hg38 => ?_) (fun hg38 => ?_)
          · have hp38 := of_decide_eq_true hg38
            refine WL_no rfl rfl hg38 rfl ?_
            refine WL_no rfl rfl hg38 rfl ?_
            refine WL_no rfl rfl hg38 rfl ?_
            refine WL_no rfl rfl hg38 rfl ?_
            refine WL_qg rfl rfl hg35 rfl (ev_pick_t rfl hg38 rfl) ?_
            refine WL_q rfl (ev_pick_t rfl hg35 rfl) ?_
            refine WL_nil ?_
            refine thenE_n ?_
            refine W_cond_t rfl ?_
            refine W_region ?_
            refine WL_q rfl (ev_move rfl) ?_
            refine WL_q rfl (ev_add rfl rfl (by omega)) ?_
            refine WL_q rfl (ev_assign rfl) ?_
            refine WL_nil ?_
            refine blockE_n ?_
            refine thenE_n ?_
            refine W_region ?_
            refine WL_q rfl (ev_add rfl rfl (by omega)) ?_
            refine WL_q rfl (ev_move rfl) ?_
            refine WL_nil ?_
            refine thenE_n ?_
            exact ⟨(k + 1, avo A.ends i k + 1), (Subs.c rfl (Subs.c rfl (Subs.c rfl (Subs.c rfl (Subs.c rfl (Subs.c rfl Subs.n)))))), (Subs.c rfl (Subs.c (lkI rfl (by omega)) Subs.n)), ⟨hRL2, ⟨⟨by omega, by omega⟩, hG2.new (SA_put hlt hlk hns) (by omega) (by omega)⟩⟩, by first | omega | (dsimp only; omega)⟩
          · have hp38 := of_decide_eq_false hg38
            refine WL_qg rfl rfl hg38 rfl (ev_move rfl) ?_
            refine WL_qg rfl rfl hg38 rfl (ev_add rfl rfl (by omega)) ?_
            refine WL_qg rfl rfl hg38 rfl (ev_move rfl) ?_
            refine WL_qg rfl rfl hg38 rfl (ev_lss rfl rfl) ?_
            refine WL_qg rfl rfl hg35 rfl (ev_pick_f rfl hg38 rfl) ?_
            refine WL_q rfl (ev_pick_t rfl hg35 rfl) ?_
            refine WL_nil ?_
            refine thenE_n ?_
            refine W_cond rfl (fun hg43 => ?_) (fun hg43 => ?_)
            · have hp43 := of_decide_eq_true hg43
              refine W_region ?_
              refine WL_q rfl (ev_move rfl) ?_
              refine WL_q rfl (ev_add rfl rfl (by omega)) ?_
              refine WL_q rfl (ev_assign rfl) ?_
              refine WL_nil ?_
              refine blockE_n ?_
              refine thenE_n ?_
              refine W_region ?_
              refine WL_q rfl (ev_add rfl rfl (by omega)) ?_
              refine WL_q rfl (ev_move rfl) ?_
              refine WL_nil ?_
              refine thenE_n ?_
              exact ⟨(k + 1, avo A.ends i k + 1), (Subs.c rfl (Subs.c rfl (Subs.c rfl (Subs.c rfl (Subs.c rfl (Subs.c rfl Subs.n)))))), (Subs.c rfl (Subs.c (lkI rfl (by omega)) Subs.n)), ⟨hRL2, ⟨⟨by omega, by omega⟩, hG2.new (SA_put hlt hlk hns) (by omega) (by omega)⟩⟩, by first | omega | (dsimp only; omega)⟩
            · have hp43 := of_decide_eq_false hg43
              refine W_skip ?_
              refine blockE_n ?_
              refine thenE_n ?_
              refine W_region ?_
              refine WL_q rfl (ev_add rfl rfl (by omega)) ?_
              refine WL_q rfl (ev_move rfl) ?_
              refine WL_nil ?_
              refine thenE_n ?_
              exact ⟨(k + 1, g2), (Subs.c rfl (Subs.c rfl (Subs.c rfl (Subs.c rfl (Subs.c rfl (Subs.c rfl Subs.n)))))), (Subs.c rfl (Subs.c (lkI rfl (by omega)) Subs.n)), ⟨hRL2, ⟨⟨by omega, hg42⟩, hG2.old (SA_put hlt hlk hns) (by omega)⟩⟩, by first | omega | (dsimp only; omega)⟩
        · have hp35 := of_decide_eq_false hg35
          refine WL_no rfl rfl hg35 rfl ?_
          refine WL_no rfl rfl hg35 rfl ?_
          refine WL_no rfl rfl hg35 rfl ?_
          refine WL_nou rfl rfl rfl ?_
          refine WL_nou rfl rfl rfl ?_
          refine WL_nou rfl rfl rfl ?_
          refine WL_nou rfl rfl rfl ?_
          refine WL_no rfl rfl hg35 rfl ?_
          refine WL_q rfl (ev_pick_f rfl hg35 rfl) ?_
          refine WL_nil ?_
          refine thenE_n ?_
          refine W_cond_f rfl ?_
          refine W_skip ?_
          refine blockE_n ?_
          refine thenE_n ?_
          refine W_region ?_
          refine WL_q rfl (ev_add rfl rfl (by omega)) ?_
          refine WL_q rfl (ev_move rfl) ?_
          refine WL_nil ?_
          refine thenE_n ?_
          exact ⟨(k + 1, g2), (Subs.c rfl (Subs.c rfl (Subs.c rfl (Subs.c rfl (Subs.c rfl (Subs.c rfl Subs.n)))))), (Subs.c rfl (Subs.c (lkI rfl (by omega)) Subs.n)), ⟨hRL2, ⟨⟨by omega, hg42⟩, hG2.old (SA_put hlt hlk hns) (by omega)⟩⟩, by first | omega | (dsimp only; omega)⟩
    · have hp21 := of_decide_eq_false hg21
      refine W_exit ?_
      refine thenE_x ?_
      refine thenE_x ?_
      refine blockE_hit ?_
      refine blockE_n ?_
      refine thenE_n ?_
      refine W_region ?_
      refine WL_q rfl (ev_add rfl rfl (by omega)) ?_
      refine WL_q rfl (ev_move rfl) ?_
      refine WL_nil ?_
      refine thenE_n ?_
      have hk9 : k = A.ends[i].length := by omega
      rw [hk9] at hG2
      exact ⟨(i + 1, g2), (Subs.c rfl (Subs.c rfl Subs.n)), (Subs.c rfl (Subs.c (lkI rfl (by omega)) Subs.n)), ⟨hRL0, ⟨⟨by omega, hg42⟩, hG2.congr (SA_next hlt)⟩⟩, by first | omega | (dsimp only; omega)⟩
  · have hp12 := of_decide_eq_false hg12
    refine W_exit ?_
    refine thenE_x ?_
    refine thenE_x ?_
    refine blockE_hit ?_
    refine thenE_n ?_
    refine W_seq ?_
    refine W_region ?_
    refine WL_q rfl (ev_move rfl) ?_
    refine WL_q rfl (ev_assign rfl) ?_
    refine WL_nil ?_
    refine thenE_n ?_
    refine W_ret ?_
    refine ret1 rfl rfl ?_
    have hi9 : i = A.ends.length := by omega
    subst hi9
    exact ⟨g, rfl, hG, hE⟩

set_option maxRecDepth 100000 in
theorem stub_spec (q : Quad) (w : World) :
    Fn Try.prog 24 #[.agg #[VI q.1, VI q.2.1, VI q.2.2.1, VI q.2.2.2]] w (fun v w' => v = VB (decide (St q)) ∧ Ext w w') := by
  have hE := Ext.refl w
  refine Fn_of Try.func24 rfl rfl (by kernel_rfl) rfl ?_
  refine W_seq ?_
  refine W_region ?_
  refine WL_m rfl (ev_box rfl) ?_
  rintro _ w1 ⟨rfl, hN1⟩
  have hz1 := hN1.size
  replace hE := hE.trans hN1.ext
  have hB1 : Blk w1 _ _ [_, _, _, _] := hN1.blk
  refine WL_q rfl (ev_assign rfl) ?_
  refine WL_nil ?_
  refine thenE_n ?_
  refine W_seq ?_
  refine W_region ?_
  refine WL_q rfl (ev_fieldAddr fo48_0 rfl) ?_
  refine WL_q rfl (ev_load one3 rfl (hB1.cell rfl)) ?_
  refine WL_q rfl (ev_fieldAddr fo48_2 rfl) ?_
  refine WL_q rfl (ev_load one3 rfl (hB1.cell rfl)) ?_
  refine WL_q rfl (ev_eql rfl rfl) ?_
  refine WL_q rfl (ev_move rfl) ?_
  refine WL_splitv (t := 8) rfl (fun hg7 => ?_) (fun hg7 => ?_)
  · have hp7 := of_decide_eq_true hg7
    refine WL_qg rfl rfl hg7 rfl (ev_fieldAddr fo48_1 rfl) ?_
    refine WL_qg rfl rfl hg7 rfl (ev_load one3 rfl (hB1.cell rfl)) ?_
    refine WL_qg rfl rfl hg7 rfl (ev_fieldAddr fo48_3 rfl) ?_
    refine WL_qg rfl rfl hg7 rfl (ev_load one3 rfl (hB1.cell rfl)) ?_
    refine WL_qg rfl rfl hg7 rfl (ev_eql rfl rfl) ?_
    refine WL_q rfl (ev_pick_t rfl hg7 rfl) ?_
    refine WL_q rfl (ev_assign rfl) ?_
    refine WL_nil ?_
    refine thenE_n ?_
    refine W_ret ?_
    refine ret1 rfl rfl ?_
    first | (exact ⟨vb (by apply decide_eq_decide.2; exact ⟨fun h => ⟨hp7, h⟩, fun h => h.2⟩), hE⟩) | (exact ⟨vb (by symm; exact decide_eq_false fun h => hp7 h.1), hE⟩)
  · have hp7 := of_decide_eq_false hg7
    refine WL_no rfl rfl hg7 rfl ?_
    refine WL_no rfl rfl hg7 rfl ?_
    refine WL_no rfl rfl hg7 rfl ?_
    refine WL_no rfl rfl hg7 rfl ?_
    refine WL_no rfl rfl hg7 rfl ?_
    refine WL_q rfl (ev_pick_f rfl hg7 rfl) ?_
    refine WL_q rfl (ev_assign rfl) ?_
    refine WL_nil ?_
    refine thenE_n ?_
    refine W_ret ?_
    refine ret1 rfl rfl ?_
    first | (exact ⟨vb (by apply decide_eq_decide.2; exact ⟨fun h => ⟨hp7, h⟩, fun h => h.2⟩), hE⟩) | (exact ⟨vb (by symm; exact decide_eq_false fun h => hp7 h.1), hE⟩)

end Go.Proofs.Ytnngpblegbjfdaa
