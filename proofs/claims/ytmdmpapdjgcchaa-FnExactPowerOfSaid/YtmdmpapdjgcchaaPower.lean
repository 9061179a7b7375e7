/- Contracts of impl.network, spec.neIf and PowerOf, of the program and of the reference; the walk of FnExactPowerOf. -/
import Derived.Test.YtmdmpapdjgcchaaQuot2
import Derived.Test.YtmdmpapdjgcchaaDist
namespace Go.Proofs.Ytmdmpapdjgcchaa
open Go Go.RowKit

/-- The first i rows as f has them, the others as they were. -/
def mixF {α : Type} (f : Nat → List α) (R : List (List α)) (i : Nat) : List (List α) := (List.range R.length).map fun u => if u < i then f u else R.getD u []
section
variable {α : Type} {f : Nat → List α} {R : List (List α)} {i : Nat}
@[simp] theorem mixF_len : (mixF f R i).length = R.length := by simp [mixF]
theorem mixF_zero : mixF f R 0 = R := by
  refine List.ext_getElem (by simp [mixF]) fun j h1 h2 => ?_
  simp only [mixF, List.getElem_map, List.getElem_range, Nat.not_lt_zero, if_false]; exact getD_eq h2
theorem mixF_row (h : i < R.length) {h2 : i < (mixF f R i).length} : (mixF f R i)[i] = R[i] := by simp only [mixF, List.getElem_map, List.getElem_range, Nat.lt_irrefl, if_false]; exact getD_eq h
theorem mixF_set (h : i < R.length) : (mixF f R i).set i (f i) = mixF f R (i + 1) := by
  refine List.ext_getElem (by simp [mixF]) fun j h1 h2 => ?_
  by_cases hj : i = j
  · subst hj; simp [mixF]
  · rw [List.getElem_set_ne hj]
    simp only [mixF, List.getElem_map, List.getElem_range]
    by_cases h9 : j < i
    · rw [if_pos h9, if_pos (by omega)]
    · rw [if_neg h9, if_neg (by omega)]
theorem mixF_full (h : R.length ≤ i) : mixF f R i = (List.range R.length).map f := by
  refine List.map_congr_left fun u hu => ?_
  have := List.mem_range.1 hu
  rw [if_pos (by omega)]
end
/-- The nodes at most r away from a node, the node itself left out. -/
def nearL (A : Net) (r : Int) (v : Nat) : List Int := ballN (bfs A.ends (v : Int)) 1 r A.ends.length
theorem near_open {A : Net} {r : Int} {i : Nat} (h : i < A.ends.length) : mixF (nearL A r) (List.replicate A.ends.length []) i = (mixF (nearL A r) (List.replicate A.ends.length []) i).set i (ballN (bfs A.ends (i : Int)) 1 r 0) := by
  have h2 : i < (mixF (nearL A r) (List.replicate A.ends.length []) i).length := by simpa [mixF_len] using h
  have e : (mixF (nearL A r) (List.replicate A.ends.length []) i)[i] = ballN (bfs A.ends (i : Int)) 1 r 0 := by rw [mixF_row (by simpa using h)]; simp [ballN_zero]
  rw [← e, List.set_getElem_self]
def nearA (A : Net) (r : Int) : List (List Int) := (List.range A.ends.length).map (nearL A r)
def powR (A : Net) (r : Int) (v : Nat) : List (Int × Int) := (nearL A r v).map fun w => (w, idxF (fun y => decide ((v : Int) = y)) (nearL A r w.toNat))
def powN (A : Net) (r : Int) : Net := ⟨(List.range A.ends.length).map (powR A r), A.ids, A.inputs⟩
theorem nearA_len (A : Net) (r : Int) : (nearA A r).length = A.ends.length := by simp [nearA]
theorem nearA_at {A : Net} {r : Int} {v : Nat} {h : v < (nearA A r).length} : (nearA A r)[v] = nearL A r v := by simp [nearA]
theorem powR_len (A : Net) (r : Int) (v : Nat) : (powR A r v).length = (nearL A r v).length := by simp [powR]
theorem powR_take {A : Net} {r x : Int} {i k : Nat} (hk : k < (nearL A r i).length) (hx : (nearL A r i)[k] = x) : (powR A r i).take k ++ [(x, idxF (fun y => decide ((i : Int) = y)) (nearL A r x.toNat))] = (powR A r i).take (k + 1) := by
  have h : k < (powR A r i).length := by rw [powR_len]; exact hk
  rw [List.take_succ_eq_append_getElem h]
  simp only [powR, List.getElem_map, hx]
theorem near_mem {A : Net} {r : Int} {v : Nat} {x : Int} (h : x ∈ nearL A r v) : 0 ≤ x ∧ x.toNat < A.ends.length ∧ 1 ≤ (bfs A.ends (v : Int)).getD x.toNat 0 ∧ (bfs A.ends (v : Int)).getD x.toNat 0 ≤ r := by
  obtain ⟨u, hu, rfl⟩ := List.mem_map.1 h
  obtain ⟨h1, h2⟩ := List.mem_filter.1 hu
  have h1 := List.mem_range.1 h1
  rw [inB_eq, inR_true] at h2
  simp only [Int.toNat_natCast]
  exact ⟨by omega, h1, h2.1, h2.2⟩
theorem mem_near {A : Net} {r : Int} {v u : Nat} (hu : u < A.ends.length) (h : 1 ≤ (bfs A.ends (v : Int)).getD u 0 ∧ (bfs A.ends (v : Int)).getD u 0 ≤ r) : (u : Int) ∈ nearL A r v :=
  List.mem_map.2 ⟨u, List.mem_filter.2 ⟨List.mem_range.2 hu, by rw [inB_eq, inR_true]; exact h⟩, rfl⟩
theorem bfs_sym {A : Net} (hk : NOk A) {u v : Nat} (hu : u < A.ends.length) (hv : v < A.ends.length) (h : 0 ≤ (bfs A.ends (v : Int)).getD u 0) : (bfs A.ends (u : Int)).getD v 0 = (bfs A.ends (v : Int)).getD u 0 := by
  have hE := hk.endsOk
  have hS := hk.sym
  have h1 := (bfs_walk hE (by omega) (by omega) hu h).symm hE hS
  have h2 := bfs_least hE (by omega) (by omega) h1
  simp only [Int.toNat_natCast] at h2
  have h3 := (bfs_walk hE (by omega) (by omega) hv h2.1).symm hE hS
  have h4 := bfs_least hE (by omega) (by omega) h3
  simp only [Int.toNat_natCast] at h4
  omega
theorem near_sym {A : Net} (hk : NOk A) {r x : Int} {v : Nat} (hv : v < A.ends.length) (h : x ∈ nearL A r v) : (v : Int) ∈ nearL A r x.toNat := by
  obtain ⟨h1, h2, h3, h4⟩ := near_mem h
  have hs := bfs_sym hk (u := x.toNat) (v := v) h2 hv (by omega)
  exact mem_near hv (by omega)
theorem near_le (A : Net) (r : Int) (v : Nat) : (nearL A r v).length ≤ A.ends.length := ballN_len _ _ _ _
theorem pow_tot {A : Net} {r : Int} (h : NOk A) : totN (powN A r) ≤ 1048576 := by
  have h1 : ∀ x ∈ (powN A r).ends, x.length ≤ 40 := by
    intro x hx
    obtain ⟨v, _, rfl⟩ := List.mem_map.1 (show x ∈ (List.range A.ends.length).map (powR A r) from hx)
    rw [powR_len]
    have := near_le A r v
    have := h.nodes
    omega
  have h2 := totL_bd h1
  have h3 : (powN A r).ends.length = A.ends.length := by simp [powN]
  have h4 : (powN A r).inputs.length = A.inputs.length := rfl
  have h5 : (powN A r).ids.length = A.ids.length := rfl
  have h6 := h.nodes
  have h7 := h.inLen
  have h8 : A.ids.length ≤ 40 := by
    rcases h.ids with h1 | h1
    · omega
    · have := h1.1; omega
  unfold totN; omega
/-- The rows that a loop fills: row i lies in a block from m on, from j on no row lies anywhere yet. -/
def NR {α : Type} (f : α → List Value) (sz l hi : Nat) (w : World) (E T : TypeId) (b i m j : Nat) (xss : List (List α)) : Prop :=
  ∃ vs, b < l ∧ Blk w b T ((vs.zip xss).map fun p => rowVal p.1 p.2) ∧ OwnAll f sz l hi w E vs xss ∧ (∀ q, (vs.getD i (none, 0)).1 = some q → m ≤ q.block) ∧ ∀ u, j ≤ u → (vs.getD u (none, 0)).1 = none
section
variable {α : Type} {f : α → List Value} {sz l hi : Nat} {w w' : World} {E T : TypeId} {b i m j : Nat} {xss : List (List α)}
theorem NR.ext (h : NR f sz l hi w E T b i m j xss) (k : Ext w w') : NR f sz l hi w' E T b i m j xss := by
  obtain ⟨vs, h0, h1, h2, h3, h4⟩ := h; exact ⟨vs, h0, h1.ext k, h2.ext k, h3, h4⟩
theorem NR.sto {g : Nat} {Ts : TypeId} {ds : List Value} (h : NR f sz l hi w E T b i m j xss) (k : Sto w w' g Ts ds) (hb : g < b ∨ (hi ≤ g ∧ b < g)) : NR f sz l hi w' E T b i m j xss := by
  obtain ⟨vs, h0, h1, h2, h3, h4⟩ := h; exact ⟨vs, h0, h1.keep k.keep (by show b ≠ g; omega), h2.keep k.keep fun q _ _ => by show q ≠ g; omega, h3, h4⟩
theorem NR.up {hi' : Nat} (h : NR f sz l hi w E T b i m j xss) (k : hi ≤ hi') : NR f sz l hi' w E T b i m j xss := by
  obtain ⟨vs, h0, h1, h2, h3, h4⟩ := h; exact ⟨vs, h0, h1, h2.mono (Nat.le_refl _) k, h3, h4⟩
theorem NR.to {yss : List (List α)} (h : NR f sz l hi w E T b i m j xss) (e : xss = yss) : NR f sz l hi w E T b i m j yss := e ▸ h
theorem NR.fwd {i' m' j' : Nat} (h : NR f sz l hi w E T b i m j xss) (k : j ≤ i') (k2 : j ≤ j') : NR f sz l hi w E T b i' m' j' xss := by
  obtain ⟨vs, h0, h1, h2, h3, h4⟩ := h; exact ⟨vs, h0, h1, h2, fun q hq => by rw [h4 i' k] at hq; simp at hq, fun u hu => h4 u (by omega)⟩
theorem NR.made {n : Nat} (h : Blk w b T (List.replicate n (.slice none 0 0))) (h1 : b < l) : NR f sz l hi w E T b i m j (List.replicate n []) :=
  ⟨List.replicate n (none, 0), h1, by simpa [List.zip_replicate, rowVal] using h, OwnAll.nils n, fun q hq => by
    by_cases k : i < n
    · rw [getD_eq (by simpa using k)] at hq; simp at hq
    · simp [List.getD, List.getElem?_eq_none (show (List.replicate n ((none : Option Addr), 0)).length ≤ i by simpa using k)] at hq, fun u _ => by
    by_cases k : u < n
    · rw [getD_eq (by simpa using k)]; simp
    · simp [List.getD, List.getElem?_eq_none (show (List.replicate n ((none : Option Addr), 0)).length ≤ u by simpa using k)]⟩
theorem NR.put {vs : List (Option Addr × Nat)} {w0 w1 : World} {Ts : TypeId} {ds : List Value} {a' : Option Addr} {n' c' y : Nat} {ys : List α} (hbl : b < l) (hOA : OwnAll f sz l hi w0 E vs xss) (hh : hi ≤ w0.heap.size) (hi1 : i < vs.length) (hm : ∀ q, (vs.getD i (none, 0)).1 = some q → m ≤ q.block) (hmw : m ≤ w0.heap.size) (hj : ∀ u, j ≤ u → (vs.getD u (none, 0)).1 = none) (hij : i < j)
    (k : Apd w0 w1 vs[i].1) (o : Own l w1 E sz a' n' c' (ys.flatMap f)) (hn : n' = ys.length) (fr : ∀ q, a' = some q → (∃ p, vs[i].1 = some p ∧ q.block = p.block) ∨ w0.heap.size ≤ q.block)
    (hS : Sto w1 w b Ts ds) (hy : y = i) (hB : Blk w b T (((vs.zip xss).map fun p => rowVal p.1 p.2).set y (.slice a' n' c'))) : NR f sz l w.heap.size w E T b i m j (xss.set i ys) := by
  subst hn hy
  have h1 := (hOA.step hi1 k o fr hh).keep hS.keep fun q h1 h2 => by show q ≠ b; omega
  refine ⟨vs.set y (a', c'), hbl, ?_, h1.mono (Nat.le_refl _) (by rw [hS.size]; exact Nat.le_refl _), fun q hq => ?_, fun u hu => ?_⟩
  · rw [zip_set, List.map_set]; exact hB
  · rw [getD_eq (by simpa using hi1), List.getElem_set_self] at hq
    rcases fr q hq with ⟨p, hp, e⟩ | h9
    · have := hm p (by rw [getD_eq hi1]; exact hp); omega
    · omega
  · have := hj u hu
    by_cases k9 : u < vs.length
    · rw [getD_eq (by simpa using k9), List.getElem_set_ne (by omega)]
      rw [getD_eq k9] at this; exact this
    · simp [List.getD, List.getElem?_eq_none (show (vs.set y (a', c')).length ≤ u by simpa using k9)]
/-- Row i is made empty. -/
theorem NR.clr {w0 : World} {Ts : TypeId} {ds : List Value} {vs : List (Option Addr × Nat)} {y m' : Nat} (hbl : b < l) (hOA : OwnAll f sz l hi w0 E vs xss) (hi1 : i < vs.length) (hh : hi ≤ w0.heap.size) (hS : Sto w0 w b Ts ds) (hy : y = i) (hB : Blk w b T (((vs.zip xss).map fun p => rowVal p.1 p.2).set y (.slice none 0 0))) : NR f sz l hi w E T b i m' vs.length (xss.set i []) := by
  subst hy
  have hOA' := hOA.keep hS.keep fun q h1 h2 => by show q ≠ b; omega
  refine ⟨vs.set y (none, 0), hbl, ?_, ⟨by simp [hOA.len], fun j h1 h2 => ?_, fun j h1 p hp => ?_, fun j1 j2 h1 h2 hne p q hp hq => ?_⟩, fun q hq => ?_, fun u hu => ?_⟩
  · rw [zip_set, List.map_set]; exact hB
  · simp only [List.length_set] at h1 h2
    by_cases e : y = j
    · subst e; simp only [List.getElem_set_self]; exact Own.nil _ _ _ _
    · simp only [List.getElem_set_ne e]; exact hOA'.own j h1 h2
  · simp only [List.length_set] at h1
    by_cases e : y = j
    · subst e; simp at hp
    · simp only [List.getElem_set_ne e] at hp; exact hOA.top j h1 p hp
  · simp only [List.length_set] at h1 h2
    by_cases e : y = j1
    · subst e; simp at hp
    · by_cases e2 : y = j2
      · subst e2; simp at hq
      · simp only [List.getElem_set_ne e] at hp
        simp only [List.getElem_set_ne e2] at hq
        exact hOA.sep j1 j2 h1 h2 hne p q hp hq
  · rw [getD_eq (by simpa using hi1), List.getElem_set_self] at hq; simp at hq
  · simp [List.getD, List.getElem?_eq_none (show (vs.set y ((none : Option Addr), 0)).length ≤ u by simpa using hu)]
end
theorem OwnH.app {l r p q n c sz : Nat} {w w' : World} {E : TypeId} {a : Option Addr} {cs : List Value} {a' : Option Addr} {lo' sz' n' c' : Nat} {E' : TypeId} {ds : List Value} (h : OwnH l r p q w E sz a n c cs) (k : Apd w w' a') (o : Own lo' w E' sz' a' n' c' ds) (hb : r ≤ lo') : OwnH l r p q w' E sz a n c cs :=
  ⟨h.1.keep k fun x hx => ⟨(h.1.block x hx).2, fun y hy => by have := (h.2 x hx).1; have := (o.block y hy).1; omega⟩, h.2⟩
theorem rowv_at9 {α : Type} {vs : List (Option Addr × Nat)} {xss : List (List α)} {i : Nat} (h : i < vs.length) (h2 : i < xss.length) : ((vs.zip xss).map fun p => rowVal p.1 p.2)[i]? = some (.slice vs[i].1 xss[i].length vs[i].2) := by
  rw [List.getElem?_eq_getElem (by simp; omega)]; simp [rowVal]
theorem Own.above {lo m n c sz : Nat} {w : World} {E : TypeId} {a : Option Addr} {cs : List Value} (h : Own lo w E sz a n c cs) (hm : ∀ q, a = some q → m ≤ q.block) : Own m w E sz a n c cs := by
  obtain ⟨h1, h2⟩ := h
  rcases h2 with h2 | ⟨g, d, arr, e, hlo, rest⟩
  · exact ⟨h1, .inl h2⟩
  injection e with e1 e2 e3
  subst e1 e3
  · exact ⟨h1, .inr ⟨g, _, arr, rfl, hm _ rfl, rest⟩⟩
theorem NR.any {α : Type} {f : α → List Value} {sz l hi : Nat} {w : World} {E T : TypeId} {b i m j i' : Nat} {xss : List (List α)} (h : NR f sz l hi w E T b i m j xss) : NR f sz l hi w E T b i' 0 j xss := by
  obtain ⟨vs, h0, h1, h2, h3, h4⟩ := h; exact ⟨vs, h0, h1, h2, fun q hq => Nat.zero_le _, h4⟩
theorem NR.ofCopy {l r b p : Nat} {w : World} {E F I : TypeId} {vs : List (Option Addr × Nat)} {h : NA} {A : Net} (c : CopyAt l r b p w E F I vs h A) : NR pairF 2 p r w E F b 0 0 A.ends.length A.ends :=
  ⟨vs, c.pos.2.1, c.out, c.rows, fun q _ => Nat.zero_le _, fun u hu => by
    have := c.rows.len
    simp [List.getD, List.getElem?_eq_none (show vs.length ≤ u by omega)]⟩
theorem NR.rows {lo hi l : Nat} {w : World} {E T : TypeId} {b i m j : Nat} {xss : List (List Int)} (h : NR intF 1 l hi w E T b i m j xss) (hl : l = b + 1) (h1 : lo ≤ b) (h2 : b < hi) : ORows intF 1 lo hi w E b xss := by
  subst hl; obtain ⟨vs, _, hB, hO, _, _⟩ := h; exact ⟨T, vs, h1, h2, hB, hO⟩
/-- A copied network whose rows were filled anew. -/
theorem NR.net {l b p r mm : Nat} {w : World} {E F I : TypeId} {i m j : Nat} {es : Ends} {ids inp : List Int} {a2 a3 : Option Addr} {c2 c3 n : Nat} (h : NR pairF 2 p r w E F b i m j es) (h1 : l ≤ b) (h3 : p ≤ r) (hn : n = es.length) (hc : es.length ≤ maxLen) (k1 : l ≤ mm) (k2 : mm ≤ p) (hI : OwnH l mm b (b + 1) w I 1 a2 ids.length c2 (ids.map VI)) (hP : OwnH mm p b (b + 1) w I 1 a3 inp.length c3 (inp.map VI)) : OwnNet l r w E I ⟨some ⟨b, 0, none⟩, n, a2, c2, a3, c3⟩ ⟨es, ids, inp⟩ := by
  subst hn
  obtain ⟨vs, hb, hB, hO, _, _⟩ := h
  have hl := hO.len
  refine ⟨F, vs, ⟨hl, Own.of_front (rest := []) (by rw [List.append_nil]; exact hB) h1 (Nat.le_refl _) hc (by simp [hl]) (by simp [hl]), fun q hq => ?_, fun i h4 h5 => ?_, hO.top, hO.sep, fun i h4 q x hq hx => ?_⟩, ⟨hI.1, fun x hx => ⟨by have := hI.2 x hx; omega, .inr (Nat.zero_le _)⟩⟩, ⟨hP.1.mono k1, fun x hx => ⟨by have := hP.2 x hx; omega, .inr (Nat.zero_le _)⟩⟩, fun x y hx hy => ?_, fun x y hx hy => ?_, fun x y hx hy => ?_, fun i h4 x y hx hy => ?_, fun i h4 x y hx hy => ?_⟩
  · cases hq; show b < r; omega
  · have := hO.own i h4 h5; rw [pairF_flat] at this; exact this.mono (by omega)
  · cases hq; have := ((hO.own i h4 (by omega)).block x hx).1; show b ≠ x.block; omega
  · have := hI.2 x hx; have := (hP.1.block y hy).1; omega
  · cases hx; have := hI.2 y hy; show b ≠ y.block; omega
  · cases hx; have := hP.2 y hy; show b ≠ y.block; omega
  · have := ((hO.own i h4 (by omega)).block x hx).1; have := hI.2 y hy; omega
  · have := ((hO.own i h4 (by omega)).block x hx).1; have := hP.2 y hy; omega

set_option maxRecDepth 100000 in
theorem network_spec {loA hiA : Nat} (nA : NA) (A : Net) (w : World) (hA : IsNet loA hiA w nA A) (hhiA : hiA ≤ w.heap.size) (hnA : totN A ≤ 1048576) :
    Fn Try.prog 57 #[netV nA A] w (fun o9 w' => ∃ h' U q, o9 = .tuple #[netV h' U, VB q] ∧ ((q = true ∧ NOk A ∧ h' = nA ∧ U = A) ∨ (q = false ∧ ¬ NOk A ∧ h' = ⟨none, 0, none, 0, none, 0⟩ ∧ U = ⟨[], [], []⟩)) ∧ Ext w w') := by
  have hqA := totL_len A.ends
  have hmA : totL A.ends + A.ids.length + A.inputs.length ≤ 1048576 := hnA
  have hE := Ext.refl w
  refine Fn_of Try.func57 rfl rfl (by kernel_rfl) rfl ?_
  refine W_seq ?_
  refine W_region ?_
  refine WL_m rfl (ev_box rfl) ?_
  rintro _ w1 ⟨rfl, hN1⟩
  have hz1 := hN1.size
  replace hE := hE.trans hN1.ext
  replace hA := hA.ext hN1.ext
  have hB1 : Blk w1 _ _ [_, _, _] := hN1.blk
  refine WL_m rfl (ev_alloc zr29) ?_
  rintro _ w2 ⟨rfl, hN2⟩
  have hz2 := hN2.size
  replace hE := hE.trans hN2.ext
  replace hA := hA.ext hN2.ext
  replace hB1 := hB1.ext hN2.ext
  have hB2 : Blk w2 _ _ [_, _, _] := hN2.blk
  refine WL_q rfl (ev_assign rfl) ?_
  refine WL_nil ?_
  refine thenE_n ?_
  refine W_seq ?_
  refine W_seq ?_
  refine W_region ?_
  refine WL_q rfl (ev_loads st29 sz29 rfl (cellsB hB1) rfl) ?_
  refine WL_m rfl (ev_call rfl (IsNetwork_spec _ A _ hA (by omega) (by omega))) ?_
  rintro _ w5 ⟨b5, rfl, hb5, hE5⟩
  have hz5 := hE5.size
  replace hE := hE.trans hE5
  replace hA := hA.ext hE5
  replace hB1 := hB1.ext hE5
  replace hB2 := hB2.ext hE5
  refine WL_q rfl (ev_not rfl) ?_
  refine WL_nil ?_
  refine thenE_n ?_
  refine W_cond rfl (fun hg6 => ?_) (fun hg6 => ?_)
  · have hg5 := not_true hg6
    have hp5 := ttN hb5 hg5
    refine W_seq ?_
    refine W_region ?_
    refine WL_q rfl (ev_buildP0 sn29_3 zr29 ) ?_
    refine WL_s (ev_stores sz29 rfl rfl rfl (by simp [Value.oneCell']) hB2 (by simp)) ?_
    rintro _ w2_1 hS2_1
    have hz2_1 := hS2_1.size
    replace hE := hE.sto hS2_1 (by omega)
    replace hA := hA.sto hS2_1 (by omega)
    replace hB1 := hB1.sto hS2_1 (by omega)
    replace hB2 : Blk w2_1 _ _ [_, _, _] := hS2_1.blk
    refine WL_q rfl (ev_assign rfl) ?_
    refine WL_nil ?_
    refine thenE_n ?_
    refine W_ret ?_
    refine thenE_r ?_
    refine retc2 rfl rfl st29 sz29 (cellsB hB2) rfl rfl ?_
    first | (exact ⟨⟨none, 0, none, 0, none, 0⟩, ⟨[], [], []⟩, false, rfl, .inr ⟨rfl, hp5, rfl, rfl⟩, hE⟩) | (exact ⟨nA, A, true, rfl, .inl ⟨rfl, hp5, rfl, rfl⟩, hE⟩)
  · have hg5 := not_false hg6
    have hp5 := hb5.1 hg5
    refine W_skip ?_
    refine thenE_n ?_
    refine W_seq ?_
    refine W_region ?_
    refine WL_q rfl (ev_loads st29 sz29 rfl (cellsB hB1) rfl) ?_
    refine WL_s (ev_stores sz29 rfl rfl rfl (by simp [Value.oneCell']) hB2 (by simp)) ?_
    rintro _ w3_1 hS3_1
    have hz3_1 := hS3_1.size
    replace hE := hE.sto hS3_1 (by omega)
    replace hA := hA.sto hS3_1 (by omega)
    replace hB1 := hB1.sto hS3_1 (by omega)
    replace hB2 : Blk w3_1 _ _ [_, _, _] := hS3_1.blk
    refine WL_q rfl (ev_assign rfl) ?_
    refine WL_nil ?_
    refine thenE_n ?_
    refine W_ret ?_
    refine retc2 rfl rfl st29 sz29 (cellsB hB2) rfl rfl ?_
    first | (exact ⟨⟨none, 0, none, 0, none, 0⟩, ⟨[], [], []⟩, false, rfl, .inr ⟨rfl, hp5, rfl, rfl⟩, hE⟩) | (exact ⟨nA, A, true, rfl, .inl ⟨rfl, hp5, rfl, rfl⟩, hE⟩)

set_option maxRecDepth 100000 in
theorem neIf_spec {loA hiA : Nat} (nA : NA) (A : Net) (w : World) (hA : IsNet loA hiA w nA A) (hhiA : hiA ≤ w.heap.size) (hnA : totN A ≤ 1048576) :
    Fn Try.prog 51 #[netV nA A] w (fun o9 w' => ∃ h' U q, o9 = .tuple #[netV h' U, VB q] ∧ ((q = true ∧ NOk A ∧ h' = nA ∧ U = A) ∨ (q = false ∧ ¬ NOk A ∧ h' = ⟨none, 0, none, 0, none, 0⟩ ∧ U = ⟨[], [], []⟩)) ∧ Ext w w') := by
  have hqA := totL_len A.ends
  have hmA : totL A.ends + A.ids.length + A.inputs.length ≤ 1048576 := hnA
  have hE := Ext.refl w
  refine Fn_of Try.func51 rfl rfl (by kernel_rfl) rfl ?_
  refine W_seq ?_
  refine W_region ?_
  refine WL_m rfl (ev_box rfl) ?_
  rintro _ w1 ⟨rfl, hN1⟩
  have hz1 := hN1.size
  replace hE := hE.trans hN1.ext
  replace hA := hA.ext hN1.ext
  have hB1 : Blk w1 _ _ [_, _, _] := hN1.blk
  refine WL_m rfl (ev_alloc zr29) ?_
  rintro _ w2 ⟨rfl, hN2⟩
  have hz2 := hN2.size
  replace hE := hE.trans hN2.ext
  replace hA := hA.ext hN2.ext
  replace hB1 := hB1.ext hN2.ext
  have hB2 : Blk w2 _ _ [_, _, _] := hN2.blk
  refine WL_q rfl (ev_assign rfl) ?_
  refine WL_nil ?_
  refine thenE_n ?_
  refine W_seq ?_
  refine W_seq ?_
  refine W_region ?_
  refine WL_q rfl (ev_loads st29 sz29 rfl (cellsB hB1) rfl) ?_
  refine WL_m rfl (ev_call rfl (neGood_spec _ A _ hA (by omega) (by omega))) ?_
  rintro _ w5 ⟨b5, rfl, hb5, hE5⟩
  have hz5 := hE5.size
  replace hE := hE.trans hE5
  replace hA := hA.ext hE5
  replace hB1 := hB1.ext hE5
  replace hB2 := hB2.ext hE5
  refine WL_q rfl (ev_not rfl) ?_
  refine WL_nil ?_
  refine thenE_n ?_
  refine W_cond rfl (fun hg6 => ?_) (fun hg6 => ?_)
  · have hg5 := not_true hg6
    have hp5 := ttN hb5 hg5
    refine W_seq ?_
    refine W_region ?_
    refine WL_q rfl (ev_buildP0 sn29_3 zr29 ) ?_
    refine WL_s (ev_stores sz29 rfl rfl rfl (by simp [Value.oneCell']) hB2 (by simp)) ?_
    rintro _ w2_1 hS2_1
    have hz2_1 := hS2_1.size
    replace hE := hE.sto hS2_1 (by omega)
    replace hA := hA.sto hS2_1 (by omega)
    replace hB1 := hB1.sto hS2_1 (by omega)
    replace hB2 : Blk w2_1 _ _ [_, _, _] := hS2_1.blk
    refine WL_q rfl (ev_assign rfl) ?_
    refine WL_nil ?_
    refine thenE_n ?_
    refine W_ret ?_
    refine thenE_r ?_
    refine retc2 rfl rfl st29 sz29 (cellsB hB2) rfl rfl ?_
    first | (exact ⟨⟨none, 0, none, 0, none, 0⟩, ⟨[], [], []⟩, false, rfl, .inr ⟨rfl, hp5, rfl, rfl⟩, hE⟩) | (exact ⟨nA, A, true, rfl, .inl ⟨rfl, hp5, rfl, rfl⟩, hE⟩)
  · have hg5 := not_false hg6
    have hp5 := hb5.1 hg5
    refine W_skip ?_
    refine thenE_n ?_
    refine W_seq ?_
    refine W_region ?_
    refine WL_q rfl (ev_loads st29 sz29 rfl (cellsB hB1) rfl) ?_
    refine WL_s (ev_stores sz29 rfl rfl rfl (by simp [Value.oneCell']) hB2 (by simp)) ?_
    rintro _ w3_1 hS3_1
    have hz3_1 := hS3_1.size
    replace hE := hE.sto hS3_1 (by omega)
    replace hA := hA.sto hS3_1 (by omega)
    replace hB1 := hB1.sto hS3_1 (by omega)
    replace hB2 : Blk w3_1 _ _ [_, _, _] := hS3_1.blk
    refine WL_q rfl (ev_assign rfl) ?_
    refine WL_nil ?_
    refine thenE_n ?_
    refine W_ret ?_
    refine retc2 rfl rfl st29 sz29 (cellsB hB2) rfl rfl ?_
    first | (exact ⟨⟨none, 0, none, 0, none, 0⟩, ⟨[], [], []⟩, false, rfl, .inr ⟨rfl, hp5, rfl, rfl⟩, hE⟩) | (exact ⟨nA, A, true, rfl, .inl ⟨rfl, hp5, rfl, rfl⟩, hE⟩)

theorem network_len {lo hi n n2 n3 : Nat} (a1 a2 a3 : Option Addr) (c1 c2 c3 : Nat) (A : Net) (w : World) (e1 : A.ends.length = n) (e2 : A.ids.length = n2) (e3 : A.inputs.length = n3) (hA : IsNet lo hi w ⟨a1, c1, a2, c2, a3, c3⟩ A) (hhi : hi ≤ w.heap.size) (hn : totN A ≤ 1048576) :
    Fn Try.prog 57 #[.agg #[.slice a1 n c1, .slice a2 n2 c2, .slice a3 n3 c3]] w (fun o9 w' => ∃ h' U q, o9 = .tuple #[netV h' U, VB q] ∧ ((q = true ∧ NOk A ∧ h' = ⟨a1, c1, a2, c2, a3, c3⟩ ∧ U = A) ∨ (q = false ∧ ¬ NOk A ∧ h' = ⟨none, 0, none, 0, none, 0⟩ ∧ U = ⟨[], [], []⟩)) ∧ Ext w w') := by
  subst e1 e2 e3; exact network_spec ⟨a1, c1, a2, c2, a3, c3⟩ A w hA hhi hn
theorem neIf_len {lo hi n n2 n3 : Nat} (a1 a2 a3 : Option Addr) (c1 c2 c3 : Nat) (A : Net) (w : World) (e1 : A.ends.length = n) (e2 : A.ids.length = n2) (e3 : A.inputs.length = n3) (hA : IsNet lo hi w ⟨a1, c1, a2, c2, a3, c3⟩ A) (hhi : hi ≤ w.heap.size) (hn : totN A ≤ 1048576) :
    Fn Try.prog 51 #[.agg #[.slice a1 n c1, .slice a2 n2 c2, .slice a3 n3 c3]] w (fun o9 w' => ∃ h' U q, o9 = .tuple #[netV h' U, VB q] ∧ ((q = true ∧ NOk A ∧ h' = ⟨a1, c1, a2, c2, a3, c3⟩ ∧ U = A) ∨ (q = false ∧ ¬ NOk A ∧ h' = ⟨none, 0, none, 0, none, 0⟩ ∧ U = ⟨[], [], []⟩)) ∧ Ext w w') := by
  subst e1 e2 e3; exact neIf_spec ⟨a1, c1, a2, c2, a3, c3⟩ A w hA hhi hn

set_option maxHeartbeats 1000000 in
set_option maxRecDepth 100000 in
theorem PowerOf_spec {loA hiA : Nat} (nA : NA) (A : Net) (r : Int) (w : World) (hA : IsNet loA hiA w nA A) (hhiA : hiA ≤ w.heap.size) (hnA : totN A ≤ 1048576) :
    Fn Try.prog 22 #[netV nA A, VI r] w (fun o9 w' => ∃ h' U q, o9 = .tuple #[netV h' U, VB q] ∧ RV (⟨[], [], []⟩ : Net) (opt ((NOk A ∧ inR r 1 40 = true) ∧ NOk (powN A r)) (powN A r)) U q ∧ OwnNet w.heap.size w'.heap.size w' 71 3 h' U ∧ totN U ≤ 1048576 ∧ Ext w w') := by
  have hqA := totL_len A.ends
  have hmA : totL A.ends + A.ids.length + A.inputs.length ≤ 1048576 := hnA
  have hE := Ext.refl w
  refine Fn_of Try.func22 rfl rfl (by kernel_rfl) rfl ?_
  refine W_seq ?_
  refine W_region ?_
  refine WL_m rfl (ev_box rfl) ?_
  rintro _ w2 ⟨rfl, hN2⟩
  have hz2 := hN2.size
  replace hE := hE.trans hN2.ext
  replace hA := hA.ext hN2.ext
  have hB2 : Blk w2 _ _ [_, _, _] := hN2.blk
  refine WL_m rfl (ev_alloc zr29) ?_
  rintro _ w4 ⟨rfl, hN4⟩
  have hz4 := hN4.size
  replace hE := hE.trans hN4.ext
  replace hA := hA.ext hN4.ext
  replace hB2 := hB2.ext hN4.ext
  have hB4 : Blk w4 _ _ [_, _, _] := hN4.blk
  refine WL_q rfl (ev_assign rfl) ?_
  refine WL_nil ?_
  refine thenE_n ?_
  refine W_seq ?_
  refine W_seq ?_
  refine W_region ?_
  refine WL_q rfl (ev_loads st29 sz29 rfl (cellsB hB2) rfl) ?_
  refine WL_m rfl (ev_call rfl (IsNetwork_spec _ A _ hA (by omega) (by omega))) ?_
  rintro _ w15 ⟨b15, rfl, hb15, hE15⟩
  have hz15 := hE15.size
  replace hE := hE.trans hE15
  replace hA := hA.ext hE15
  replace hB2 := hB2.ext hE15
  replace hB4 := hB4.ext hE15
  refine WL_q rfl (ev_not rfl) ?_
  refine WL_q rfl (ev_move rfl) ?_
  refine WL_splitv (t := 17) rfl (fun hg16 => ?_) (fun hg16 => ?_)
  · have hg15 := not_true hg16
    have hp15 := ttN hb15 hg15
    refine WL_no rfl rfl hg16 rfl ?_
    refine WL_no rfl rfl hg16 rfl ?_
    refine WL_no rfl rfl hg16 rfl ?_
    refine WL_q rfl (ev_pick_t rfl hg16 rfl) ?_
    refine WL_nil ?_
    refine thenE_n ?_
    refine W_cond_t rfl ?_
    refine W_seq ?_
    refine W_region ?_
    refine WL_q rfl (ev_buildP0 sn29_3 zr29 ) ?_
    refine WL_s (ev_stores sz29 rfl rfl rfl (by simp [Value.oneCell']) hB4 (by simp)) ?_
    rintro _ w2_1 hS2_1
    have hz2_1 := hS2_1.size
    replace hE := hE.sto hS2_1 (by omega)
    replace hA := hA.sto hS2_1 (by omega)
    replace hB2 := hB2.sto hS2_1 (by omega)
    replace hB4 : Blk w2_1 _ _ [_, _, _] := hS2_1.blk
    refine WL_q rfl (ev_assign rfl) ?_
    refine WL_nil ?_
    refine thenE_n ?_
    refine W_ret ?_
    refine thenE_r ?_
    refine retc2 rfl rfl st29 sz29 (cellsB hB4) rfl rfl ?_
    first | (exact ⟨⟨none, 0, none, 0, none, 0⟩, ⟨[], [], []⟩, _, rfl, .no (fun h => hp15 h.1.1), OwnNet.nil, by decide, hE⟩) | (exact ⟨⟨none, 0, none, 0, none, 0⟩, ⟨[], [], []⟩, _, rfl, .no (fun h => tf hg19 h.1.2), OwnNet.nil, by decide, hE⟩) | (exact hq100.elim (fun ⟨e1, h1, e2, e3⟩ => (by subst e1 e2 e3; exact ⟨_, powN A r, _, rfl, .yes ⟨⟨hp15, inR_true.2 hp19⟩, h1⟩ rfl, hON.up (by omega) (by omega), pow_tot hp15, hE⟩)) (fun ⟨e1, h1, e2, e3⟩ => (by subst e1 e2 e3; exact ⟨⟨none, 0, none, 0, none, 0⟩, ⟨[], [], []⟩, _, rfl, .no (fun h => h1 h.2), OwnNet.nil, by decide, hE⟩)))
  · have hg15 := not_false hg16
    have hp15 := hb15.1 hg15
    refine WL_qg rfl rfl hg16 rfl (ev_move rfl) ?_
    refine WL_mg rfl rfl hg16 rfl (ev_call rfl (within_spec _ _ _ _)) ?_
    rintro _ _ ⟨rfl, rfl⟩
    refine WL_qg rfl rfl hg16 rfl (ev_not rfl) ?_
    refine WL_q rfl (ev_pick_f rfl hg16 rfl) ?_
    refine WL_nil ?_
    refine thenE_n ?_
    refine W_cond rfl (fun hg20 => ?_) (fun hg20 => ?_)
    · have hg19 := not_true hg20
      have hp19 := inR_false.1 hg19
      refine W_seq ?_
      refine W_region ?_
      refine WL_q rfl (ev_buildP0 sn29_3 zr29 ) ?_
      refine WL_s (ev_stores sz29 rfl rfl rfl (by simp [Value.oneCell']) hB4 (by simp)) ?_
      rintro _ w2_1 hS2_1
      have hz2_1 := hS2_1.size
      replace hE := hE.sto hS2_1 (by omega)
      replace hA := hA.sto hS2_1 (by omega)
      replace hB2 := hB2.sto hS2_1 (by omega)
      replace hB4 : Blk w2_1 _ _ [_, _, _] := hS2_1.blk
      refine WL_q rfl (ev_assign rfl) ?_
      refine WL_nil ?_
      refine thenE_n ?_
      refine W_ret ?_
      refine thenE_r ?_
      refine retc2 rfl rfl st29 sz29 (cellsB hB4) rfl rfl ?_
      first | (exact ⟨⟨none, 0, none, 0, none, 0⟩, ⟨[], [], []⟩, _, rfl, .no (fun h => hp15 h.1.1), OwnNet.nil, by decide, hE⟩) | (exact ⟨⟨none, 0, none, 0, none, 0⟩, ⟨[], [], []⟩, _, rfl, .no (fun h => tf hg19 h.1.2), OwnNet.nil, by decide, hE⟩) | (exact hq100.elim (fun ⟨e1, h1, e2, e3⟩ => (by subst e1 e2 e3; exact ⟨_, powN A r, _, rfl, .yes ⟨⟨hp15, inR_true.2 hp19⟩, h1⟩ rfl, hON.up (by omega) (by omega), pow_tot hp15, hE⟩)) (fun ⟨e1, h1, e2, e3⟩ => (by subst e1 e2 e3; exact ⟨⟨none, 0, none, 0, none, 0⟩, ⟨[], [], []⟩, _, rfl, .no (fun h => h1 h.2), OwnNet.nil, by decide, hE⟩)))
    · have hg19 := not_false hg20
      have hp19 := inR_true.1 hg19
      refine W_skip ?_
      refine thenE_n ?_
      refine W_seq ?_
      refine W_region ?_
      refine WL_q rfl (ev_fieldAddr fo29_0 rfl) ?_
      refine WL_q rfl (ev_load one27 rfl (hB2.cell rfl)) ?_
      refine WL_q rfl (ev_len Try.underlying27 rfl) ?_
      have hndA := hp15.nodes
      have hinA := hp15.inLen
      have hk := hp15.endsOk
      refine WL_m rfl (ev_makeN Try.underlying43 el23 rfl rfl rfl (by omega) (by omega)) ?_
      rintro _ w26 ⟨rfl, hN26⟩
      have hz26 := hN26.size
      replace hE := hE.trans hN26.ext
      replace hA := hA.ext hN26.ext
      replace hB2 := hB2.ext hN26.ext
      replace hB4 := hB4.ext hN26.ext
      have hB26 := hN26.blk
      have hR0 : NR intF 1 (w15.heap.size + 1) w26.heap.size w26 3 23 w15.heap.size 0 0 0 (mixF (nearL A r) (List.replicate A.ends.length []) 0) := by rw [mixF_zero]; exact NR.made hB26 (by omega)
      refine WL_q rfl (ev_assign rfl) ?_
      refine WL_nil ?_
      refine thenE_n ?_
      refine W_seq ?_
      refine W_seq ?_
      refine W_region ?_
      refine WL_q rfl (ev_fieldAddr fo29_0 rfl) ?_
      refine WL_q rfl (ev_load one27 rfl (hB2.cell rfl)) ?_
      refine WL_q rfl (ev_len Try.underlying27 rfl) ?_
      refine WL_q rfl (ev_move rfl) ?_
      refine WL_nil ?_
      refine thenE_n ?_
      refine W_block ?_
      refine W_loopC (G := Nat) [(1, _), (2, _), (4, _), (6, _), (29, _)] ((Subs.c rfl (Subs.c rfl (Subs.c rfl (Subs.c rfl (Subs.c rfl Subs.n)))))) (fun i => [(30, VI (i : Int))]) (fun i w' => KX (w15.heap.size) w26 w' ∧ i ≤ A.ends.length ∧ NR intF 1 (w15.heap.size + 1) w'.heap.size w' 3 23 w15.heap.size i 0 i (mixF (nearL A r) (List.replicate A.ends.length []) i)) (fun i => A.ends.length - i) 0 ((Subs.c (lkI rfl (by omega)) Subs.n)) (⟨KX.refl _ _, ⟨Nat.zero_le _, hR0⟩⟩) ?_
      rintro i wL0 ⟨hRL0, hi', hR⟩
      have hzL0 := hRL0.size
      replace hA := hA.kx hRL0 (by omega)
      replace hB2 := hB2.kx hRL0 (by omega)
      replace hB4 := hB4.kx hRL0 (by omega)
      replace hE := hE.kx hRL0 (by omega)
      refine W_seq ?_
      refine W_region ?_
      refine WL_q rfl (ev_lss rfl rfl) ?_
      refine WL_nil ?_
      refine thenE_n ?_
      refine W_seq ?_
      refine W_cond rfl (fun hg31 => ?_) (fun hg31 => ?_)
      · have hp31 := of_decide_eq_true hg31
        refine W_skip ?_
        refine thenE_n ?_
        refine W_seq ?_
        refine W_block ?_
        refine W_seq ?_
        refine W_region ?_
        refine WL_q rfl (ev_move rfl) ?_
        refine WL_q rfl (ev_assign rfl) ?_
        refine WL_nil ?_
        refine thenE_n ?_
        refine W_seq ?_
        refine W_region ?_
        refine WL_q rfl (ev_loads st29 sz29 rfl (cellsB hB2) rfl) ?_
        refine WL_q rfl (ev_move rfl) ?_
        have hilt : i < A.ends.length := by omega
        have hl0 := bfs_len hk (v := (i : Int)) (by omega) (by omega)
        refine WL_m rfl (ev_call rfl (dist_spec _ A _ _ hA (by omega) (by omega) (by assumption) (by omega))) ?_
        rintro _ w35 ⟨a35, c35, rfl, hO35, hE35⟩
        have hz35 := hE35.size
        replace hE := hE.trans hE35
        replace hRL0 := hRL0.trans hE35
        replace hA := hA.ext hE35
        replace hB2 := hB2.ext hE35
        replace hB4 := hB4.ext hE35
        replace hR := hR.ext hE35
        have hI35 := own_i hO35
        refine WL_q rfl (ev_len Try.underlying23 rfl) ?_
        refine WL_q rfl (ev_move rfl) ?_
        refine WL_nil ?_
        refine thenE_n ?_
        refine W_block ?_
        refine W_loopC (G := Nat) [(1, _), (2, _), (4, _), (6, _), (7, _), (29, _), (30, _), (35, _), (36, _)] ((Subs.c rfl (Subs.c rfl (Subs.c rfl (Subs.c rfl (Subs.c rfl (Subs.c rfl (Subs.c rfl (Subs.c rfl (Subs.c rfl Subs.n)))))))))) (fun k => [(37, VI (k : Int))]) (fun k w' => KX (w15.heap.size) w35 w' ∧ k ≤ A.ends.length ∧ NR intF 1 (w15.heap.size + 1) w'.heap.size w' 3 23 w15.heap.size i w35.heap.size (i + 1) ((mixF (nearL A r) (List.replicate A.ends.length []) i).set i (ballN (bfs A.ends (i : Int)) 1 r k))) (fun g => A.ends.length - g) 0 ((Subs.c (lkI rfl (by omega)) Subs.n)) (⟨KX.refl _ _, ⟨Nat.zero_le _, ((hR.fwd (Nat.le_refl _) (by omega)).to (near_open hilt)).up (by omega)⟩⟩) ?_
        rintro k wL2 ⟨hRL2, hk', hR⟩
        have hzL2 := hRL2.size
        replace hA := hA.kx hRL2 (by omega)
        replace hB2 := hB2.kx hRL2 (by omega)
        replace hB4 := hB4.kx hRL2 (by omega)
        replace hI35 := hI35.kx hRL2 (by omega)
        replace hE := hE.kx hRL2 (by omega)
        replace hRL0 := hRL0.kx hRL2 (by omega)
        refine W_seq ?_
        refine W_region ?_
        refine WL_q rfl (ev_lss rfl rfl) ?_
        refine WL_nil ?_
        refine thenE_n ?_
        refine W_seq ?_
        refine W_cond rfl (fun hg38 => ?_) (fun hg38 => ?_)
        · have hp38 := of_decide_eq_true hg38
          refine W_skip ?_
          refine thenE_n ?_
          refine W_seq ?_
          refine W_block ?_
          refine W_seq ?_
          refine W_region ?_
          refine WL_q rfl (ev_move rfl) ?_
          refine WL_q rfl (ev_indexAddr Try.underlying23 sz3 rfl rfl (hI35.isSome (by omega)) (by omega) (by omega)) ?_
          refine WL_q rfl (ev_load one3 rfl (hI35.cell (i := k) (by omega))) ?_
          refine WL_q rfl (ev_assign rfl) ?_
          refine WL_q rfl (ev_assign rfl) ?_
          refine WL_nil ?_
          refine thenE_n ?_
          refine W_seq ?_
          refine W_region ?_
          refine WL_q rfl (ev_move rfl) ?_
          refine WL_q rfl (ev_move rfl) ?_
          refine WL_m rfl (ev_call rfl (within_spec _ _ _ _)) ?_
          rintro _ _ ⟨rfl, rfl⟩
          refine WL_nil ?_
          refine thenE_n ?_
          refine W_cond rfl (fun hg44 => ?_) (fun hg44 => ?_)
          · have hp44 := inR_true.1 hg44
            refine W_region ?_
            refine WL_q rfl (ev_move rfl) ?_
            refine WL_q rfl (ev_move rfl) ?_
            refine WL_q rfl (ev_move rfl) ?_
            refine WL_q rfl (ev_move rfl) ?_
            obtain ⟨vs, hbl, hBk, hOA, hvm, hvj⟩ := hR
            have hvl := hOA.len
            have hxl : ((mixF (nearL A r) (List.replicate A.ends.length []) i).set i (ballN (bfs A.ends (i : Int)) 1 r k)).length = A.ends.length := by simp [mixF_len]
            have hiv : i < vs.length := by omega
            have hix : i < ((mixF (nearL A r) (List.replicate A.ends.length []) i).set i (ballN (bfs A.ends (i : Int)) 1 r k)).length := by omega
            have hO := (hOA.own _ hiv hix).above (m := w35.heap.size) (fun q hq => hvm q (by rw [getD_eq hiv]; exact hq))
            have hxr : ((mixF (nearL A r) (List.replicate A.ends.length []) i).set i (ballN (bfs A.ends (i : Int)) 1 r k))[i] = ballN (bfs A.ends (i : Int)) 1 r k := List.getElem_set_self ..
            have hbn := ballN_len (bfs A.ends (i : Int)) 1 r k
            have hrl : (((mixF (nearL A r) (List.replicate A.ends.length []) i).set i (ballN (bfs A.ends (i : Int)) 1 r k))[i]).length ≤ 40 := by rw [hxr]; omega
            refine WL_q rfl (ev_indexAddr Try.underlying43 sz23 rfl rfl rfl (by omega) (by omega)) ?_
            refine WL_q rfl (ev_load one23 rfl (zip_cell hBk hvl hix)) ?_
            refine WL_q rfl (ev_move rfl) ?_
            refine WL_m rfl (ev_lit1 Try.underlying23 el3 (by decide) (by decide) rfl rfl) ?_
            rintro _ w52 ⟨rfl, hN52⟩
            have hz52 := hN52.size
            replace hE := hE.trans hN52.ext
            replace hRL0 := hRL0.trans hN52.ext
            replace hRL2 := hRL2.trans hN52.ext
            replace hA := hA.ext hN52.ext
            replace hB2 := hB2.ext hN52.ext
            replace hB4 := hB4.ext hN52.ext
            replace hI35 := hI35.ext hN52.ext
            replace hBk := hBk.ext hN52.ext
            replace hOA := hOA.ext hN52.ext
            replace hO := hO.ext hN52.ext
            have hB52 := hN52.blk
            refine WL_m rfl (ev_append Try.underlying23 el3 rfl (by decide) rfl rfl hO (SAt.of_blk (cs := [_]) (ds := []) hB52) rfl (by simp [Value.oneCell']) (by omega) (by unfold maxLen; omega) (by omega)) ?_
            rintro _ w53 ⟨a53, c53, rfl, hO53, hK53, hQ53⟩
            have hz53 := hK53.size
            replace hE := hE.app hK53 (fun q hq => by have := (hO.block q hq).1; omega)
            replace hRL0 := hRL0.app hK53 (fun q hq => by have := (hO.block q hq).1; omega)
            replace hRL2 := hRL2.app hK53 (fun q hq => by have := (hO.block q hq).1; omega)
            replace hA := hA.app hK53 (hO) (by omega)
            replace hB2 := hB2.app hK53 (hO) (by omega)
            replace hB4 := hB4.app hK53 (hO) (by omega)
            replace hI35 := hI35.app hK53 (hO) (by omega)
            replace hBk := hBk.app hK53 (hO) (by omega)
            replace hO := hO53
            refine WL_q rfl (ev_indexAddr Try.underlying43 sz23 rfl rfl rfl (by omega) (by omega)) ?_
            refine WL_s (ev_store sz23 rfl rfl rfl hBk (by simp; omega)) ?_
            rintro _ w11_10 hS11_10
            have hz11_10 := hS11_10.size
            replace hE := hE.sto hS11_10 (by omega)
            replace hRL0 := hRL0.sto hS11_10 (by omega)
            replace hRL2 := hRL2.sto hS11_10 (by omega)
            replace hA := hA.sto hS11_10 (by omega)
            replace hB2 := hB2.sto hS11_10 (by omega)
            replace hB4 := hB4.sto hS11_10 (by omega)
            replace hI35 := hI35.sto hS11_10 (by omega)
            replace hO := hO.sto hS11_10 (by omega)
            replace hBk := hS11_10.blk
            have hR2 := NR.put hbl hOA (by omega) hiv hvm (by omega) hvj (by omega) hK53 ((own_snoc hO53).mono (by omega)) (by simp) hQ53 hS11_10 (by omega) hBk
            refine WL_nil ?_
            refine blockE_n ?_
            refine thenE_n ?_
            refine W_region ?_
            refine WL_q rfl (ev_add rfl rfl (by omega)) ?_
            refine WL_q rfl (ev_move rfl) ?_
            refine WL_nil ?_
            refine thenE_n ?_
            exact ⟨k + 1, (Subs.c rfl (Subs.c rfl (Subs.c rfl (Subs.c rfl (Subs.c rfl (Subs.c rfl (Subs.c rfl (Subs.c rfl (Subs.c rfl Subs.n))))))))), (Subs.c (lkI rfl (by omega)) Subs.n), ⟨hRL2, ⟨by omega, hR2.to (by rw [hxr, List.set_set, ballN_yes (by omega) hg44])⟩⟩, by first | omega | (dsimp only; omega)⟩
          · have hp44 := inR_false.1 hg44
            refine W_skip ?_
            refine blockE_n ?_
            refine thenE_n ?_
            refine W_region ?_
            refine WL_q rfl (ev_add rfl rfl (by omega)) ?_
            refine WL_q rfl (ev_move rfl) ?_
            refine WL_nil ?_
            refine thenE_n ?_
            exact ⟨k + 1, (Subs.c rfl (Subs.c rfl (Subs.c rfl (Subs.c rfl (Subs.c rfl (Subs.c rfl (Subs.c rfl (Subs.c rfl (Subs.c rfl Subs.n))))))))), (Subs.c (lkI rfl (by omega)) Subs.n), ⟨hRL2, ⟨by omega, hR.to (by rw [ballN_no (by omega) hg44])⟩⟩, by first | omega | (dsimp only; omega)⟩
        · have hp38 := of_decide_eq_false hg38
          refine W_exit ?_
          refine thenE_x ?_
          refine thenE_x ?_
          refine blockE_hit ?_
          refine blockE_n ?_
          refine thenE_n ?_
          refine W_region ?_
          refine WL_q rfl (ev_add rfl rfl (by omega)) ?_
          refine WL_q rfl (ev_move rfl) ?_
          refine WL_nil ?_
          refine thenE_n ?_
          exact ⟨i + 1, (Subs.c rfl (Subs.c rfl (Subs.c rfl (Subs.c rfl (Subs.c rfl Subs.n))))), (Subs.c (lkI rfl (by omega)) Subs.n), ⟨hRL0, ⟨by omega, (hR.fwd (by omega) (by omega)).to (by have hk9 : k = A.ends.length := (by omega); subst hk9; exact mixF_set (f := nearL A r) (by simpa using hilt))⟩⟩, by first | omega | (dsimp only; omega)⟩
      · have hp31 := of_decide_eq_false hg31
        refine W_exit ?_
        refine thenE_x ?_
        refine thenE_x ?_
        refine blockE_hit ?_
        refine thenE_n ?_
        refine W_seq ?_
        refine W_region ?_
        refine WL_q rfl (ev_loads st29 sz29 rfl (cellsB hB2) rfl) ?_
        have hi9 : i = A.ends.length := by omega
        subst hi9
        replace hR := hR.to (show _ = nearA A r by rw [mixF_full (by simp), List.length_replicate]; rfl)
        have hnl9 := nearA_len A r
        refine WL_m rfl (ev_call rfl (copyNetwork_spec _ A _ hA (by omega) (by omega))) ?_
        rintro _ w58 ⟨b58, p58, v58, h58, rfl, hC58, hE58⟩
        have hz58 := hE58.size
        replace hE := hE.trans hE58
        replace hA := hA.ext hE58
        replace hB2 := hB2.ext hE58
        replace hB4 := hB4.ext hE58
        replace hR := hR.ext hE58
        have hp58 := hC58.pos
        have hI9 : Intss w15.heap.size wL0.heap.size w58 (some ⟨w15.heap.size, 0, none⟩) A.ends.length (nearA A r) := ((hR.rows rfl (Nat.le_refl _) (by omega)).is (Nat.le_of_eq hnl9))
        obtain ⟨x1, y1, x2, y2, x3, y3⟩ := h58
        obtain ⟨ea, ec⟩ := hC58.adr
        dsimp only at ea ec
        subst ea
        subst ec
        have hR4 := NR.ofCopy hC58
        obtain ⟨m9, hm1, hm2, hOi, hOp⟩ := hC58.nums
        dsimp only at hOi hOp
        replace hR4 := hR4.to (mixF_zero (f := powR A r)).symm
        refine WL_m rfl (ev_alloc zr29) ?_
        rintro _ w10 ⟨rfl, hN10⟩
        have hz10 := hN10.size
        replace hE := hE.trans hN10.ext
        replace hA := hA.ext hN10.ext
        replace hB2 := hB2.ext hN10.ext
        replace hB4 := hB4.ext hN10.ext
        replace hR := hR.ext hN10.ext
        replace hC58 := hC58.ext hN10.ext
        replace hI9 := hI9.ext hN10.ext
        replace hR4 := hR4.ext hN10.ext
        replace hOi := hOi.ext hN10.ext
        replace hOp := hOp.ext hN10.ext
        have hB10 : Blk w10 _ _ [_, _, _] := hN10.blk
        refine WL_s (ev_stores sz29 rfl rfl rfl (by simp [Value.oneCell']) hB10 (by simp)) ?_
        rintro _ w14_3 hS14_3
        have hz14_3 := hS14_3.size
        replace hE := hE.sto hS14_3 (by omega)
        replace hA := hA.sto hS14_3 (by omega)
        replace hB2 := hB2.sto hS14_3 (by omega)
        replace hB4 := hB4.sto hS14_3 (by omega)
        replace hR := hR.sto hS14_3 (by omega)
        replace hC58 := hC58.sto hS14_3 (by omega)
        replace hI9 := hI9.sto hS14_3 (by omega)
        replace hR4 := hR4.sto hS14_3 (by omega)
        replace hOi := hOi.sto hS14_3 (by omega)
        replace hOp := hOp.sto hS14_3 (by omega)
        replace hB10 : Blk w14_3 _ _ [_, _, _] := hS14_3.blk
        refine WL_nil ?_
        refine thenE_n ?_
        refine W_seq ?_
        refine W_seq ?_
        refine W_region ?_
        refine WL_q rfl (ev_fieldAddr fo29_0 rfl) ?_
        refine WL_q rfl (ev_load one27 rfl (hB10.cell rfl)) ?_
        refine WL_q rfl (ev_len Try.underlying27 rfl) ?_
        refine WL_q rfl (ev_move rfl) ?_
        refine WL_nil ?_
        refine thenE_n ?_
        refine W_block ?_
        refine W_loopC (G := Nat) [(4, _), (6, _), (10, _), (61, _)] ((Subs.c rfl (Subs.c rfl (Subs.c rfl (Subs.c rfl Subs.n))))) (fun i => [(62, VI (i : Int))]) (fun i w' => KX (b58) w14_3 w' ∧ i ≤ A.ends.length ∧ NR pairF 2 p58 w'.heap.size w' 71 69 b58 i 0 A.ends.length (mixF (powR A r) A.ends i)) (fun i => A.ends.length - i) 0 ((Subs.c (lkI rfl (by omega)) Subs.n)) (⟨KX.refl _ _, ⟨Nat.zero_le _, hR4.up (by omega)⟩⟩) ?_
        rintro i wL4 ⟨hRL4, hi', hR⟩
        have hzL4 := hRL4.size
        replace hA := hA.kx hRL4 (by omega)
        replace hB2 := hB2.kx hRL4 (by omega)
        replace hB4 := hB4.kx hRL4 (by omega)
        replace hI9 := hI9.kx hRL4 (by omega)
        replace hOi := hOi.kx hRL4 (by omega)
        replace hOp := hOp.kx hRL4 (by omega)
        replace hB10 := hB10.kx hRL4 (by omega)
        replace hE := hE.kx hRL4 (by omega)
        refine W_seq ?_
        refine W_region ?_
        refine WL_q rfl (ev_lss rfl rfl) ?_
        refine WL_nil ?_
        refine thenE_n ?_
        refine W_seq ?_
        refine W_cond rfl (fun hg63 => ?_) (fun hg63 => ?_)
        · have hp63 := of_decide_eq_true hg63
          refine W_skip ?_
          refine thenE_n ?_
          refine W_seq ?_
          refine W_block ?_
          refine W_seq ?_
          refine W_region ?_
          refine WL_q rfl (ev_move rfl) ?_
          refine WL_q rfl (ev_assign rfl) ?_
          refine WL_nil ?_
          refine thenE_n ?_
          refine W_seq ?_
          refine W_region ?_
          refine WL_q rfl (ev_fieldAddr fo29_0 rfl) ?_
          refine WL_q rfl (ev_load one27 rfl (hB10.cell rfl)) ?_
          refine WL_q rfl (ev_move rfl) ?_
          have hilt : i < A.ends.length := by omega
          obtain ⟨vs, hbl, hBk, hOA, hvm, hvj⟩ := hR
          have hvl := hOA.len
          have hxl : (mixF (powR A r) A.ends i).length = A.ends.length := by simp [mixF_len]
          have hiv : i < vs.length := by omega
          have hix : i < (mixF (powR A r) A.ends i).length := by omega
          refine WL_q rfl (ev_indexAddr Try.underlying27 sz69 rfl rfl rfl (by omega) (by omega)) ?_
          refine WL_s (ev_store sz69 rfl rfl rfl hBk (by simp; omega)) ?_
          rintro _ w18_4 hS18_4
          have hz18_4 := hS18_4.size
          replace hE := hE.sto hS18_4 (by omega)
          replace hRL4 := hRL4.sto hS18_4 (by omega)
          replace hA := hA.sto hS18_4 (by omega)
          replace hB2 := hB2.sto hS18_4 (by omega)
          replace hB4 := hB4.sto hS18_4 (by omega)
          replace hI9 := hI9.sto hS18_4 (by omega)
          replace hOi := hOi.sto hS18_4 (by omega)
          replace hOp := hOp.sto hS18_4 (by omega)
          replace hB10 := hB10.sto hS18_4 (by omega)
          replace hBk := hS18_4.blk
          have hR2 := NR.clr hbl hOA hiv (by omega) hS18_4 (by omega) hBk (m' := w18_4.heap.size)
          rw [hvl, hxl] at hR2
          refine WL_nil ?_
          refine thenE_n ?_
          refine W_seq ?_
          refine W_region ?_
          refine WL_q rfl (ev_move rfl) ?_
          refine WL_q rfl (ev_move rfl) ?_
          have hl71 : i < (nearA A r).length := by omega
          have ht71 := totL_le hl71
          obtain ⟨a71, c71, hc71, hr71⟩ := hI9.row hl71
          refine WL_q rfl (ev_indexAddr Try.underlying43 sz23 rfl rfl (hI9.isSome (by omega)) (by omega) (by omega)) ?_
          refine WL_q rfl (ev_load one23 rfl (hc71)) ?_
          refine WL_q rfl (ev_len Try.underlying23 rfl) ?_
          refine WL_q rfl (ev_move rfl) ?_
          refine WL_nil ?_
          refine thenE_n ?_
          refine W_block ?_
          refine W_loopC (G := Nat) [(4, _), (6, _), (10, _), (11, _), (61, _), (62, _), (72, _), (73, _)] ((Subs.c rfl (Subs.c rfl (Subs.c rfl (Subs.c rfl (Subs.c rfl (Subs.c rfl (Subs.c rfl (Subs.c rfl Subs.n))))))))) (fun k => [(74, VI (k : Int))]) (fun k w' => KX (b58) w18_4 w' ∧ k ≤ (powR A r i).length ∧ NR pairF 2 p58 w'.heap.size w' 71 69 b58 i w18_4.heap.size A.ends.length ((mixF (powR A r) A.ends i).set i ((powR A r i).take k))) (fun g => (powR A r i).length - g) 0 ((Subs.c (lkI rfl (by omega)) Subs.n)) (⟨KX.refl _ _, ⟨Nat.zero_le _, by rw [List.take_zero]; exact hR2.up (by omega)⟩⟩) ?_
          rintro k wL6 ⟨hRL6, hk', hR⟩
          have hzL6 := hRL6.size
          replace hA := hA.kx hRL6 (by omega)
          replace hB2 := hB2.kx hRL6 (by omega)
          replace hB4 := hB4.kx hRL6 (by omega)
          replace hI9 := hI9.kx hRL6 (by omega)
          replace hOi := hOi.kx hRL6 (by omega)
          replace hOp := hOp.kx hRL6 (by omega)
          replace hB10 := hB10.kx hRL6 (by omega)
          replace hr71 := hr71.kx hRL6 (by omega)
          replace hE := hE.kx hRL6 (by omega)
          replace hRL4 := hRL4.kx hRL6 (by omega)
          have hpl := powR_len A r i
          have hal := nearA_at (A := A) (r := r) (v := i) (h := by omega)
          have hall := congrArg List.length hal
          have hnle := near_le A r i
          refine W_seq ?_
          refine W_region ?_
          refine WL_q rfl (ev_lss rfl rfl) ?_
          refine WL_nil ?_
          refine thenE_n ?_
          refine W_seq ?_
          refine W_cond rfl (fun hg75 => ?_) (fun hg75 => ?_)
          · have hp75 := of_decide_eq_true hg75
            refine W_skip ?_
            refine thenE_n ?_
            refine W_seq ?_
            refine W_block ?_
            refine W_seq ?_
            refine W_region ?_
            obtain ⟨vs, hbl, hBk, hOA, hvm, hvj⟩ := hR
            have hvl := hOA.len
            have hxl : ((mixF (powR A r) A.ends i).set i ((powR A r i).take k)).length = A.ends.length := by simp [mixF_len]
            have hiv : i < vs.length := by omega
            have hix : i < ((mixF (powR A r) A.ends i).set i ((powR A r i).take k)).length := by omega
            have hO := (hOA.own _ hiv hix).above (m := w18_4.heap.size) (fun q hq => hvm q (by rw [getD_eq hiv]; exact hq))
            have e8 := rowv_at9 hiv hix
            have hOt := hOA.top i hiv
            have hxr : ((mixF (powR A r) A.ends i).set i ((powR A r i).take k))[i] = (powR A r i).take k := List.getElem_set_self ..
            have hrl : (((mixF (powR A r) A.ends i).set i ((powR A r i).take k))[i]).length ≤ 40 := by rw [hxr, List.length_take]; omega
            refine WL_q rfl (ev_indexAddr Try.underlying23 sz3 rfl rfl (hr71.isSome (by omega)) (by omega) (by omega)) ?_
            refine WL_q rfl (ev_load one3 rfl (hr71.cell (i := k) (by omega))) ?_
            have hxm : (nearA A r)[i][k] ∈ nearL A r i := by rw [← hal]; exact List.getElem_mem _
            generalize hxe : (nearA A r)[i][k] = x at hxm ⊢
            obtain ⟨hx1, hx2, hx3, hx4⟩ := near_mem hxm
            have hxe2 := (List.getElem_of_eq hal.symm (i := k) (by omega)).trans hxe
            have hax := nearA_at (A := A) (r := r) (v := x.toNat) (h := by omega)
            have haxl := congrArg List.length hax
            have hnle2 := near_le A r x.toNat
            refine WL_q rfl (ev_assign rfl) ?_
            refine WL_nil ?_
            refine thenE_n ?_
            refine W_drawZ 19 w18_4.heap.size wL6.heap.size 0 0 (fun w' => True) [(0, true), (1, true), (2, true), (3, true), (4, true), (5, true), (6, true), (7, true), (8, true), (9, true), (10, true), (11, true), (12, true), (13, true), (14, false), (15, true), (16, false), (17, false), (18, true), (19, false)] mixed (by kernel_rfl) rfl (by kernel_rfl) (fun _ _ => trivial) ?_
            intro wd22 hEd22 hzd22
            replace hE := hE.trans hEd22
            replace hRL4 := hRL4.trans hEd22
            replace hRL6 := hRL6.trans hEd22
            replace hA := hA.ext hEd22
            replace hB2 := hB2.ext hEd22
            replace hB4 := hB4.ext hEd22
            replace hI9 := hI9.ext hEd22
            replace hOi := hOi.ext hEd22
            replace hOp := hOp.ext hEd22
            replace hB10 := hB10.ext hEd22
            replace hr71 := hr71.ext hEd22
            replace hBk := hBk.ext hEd22
            replace hOA := hOA.ext hEd22
            replace hO := hO.ext hEd22
            have hDd22 := (Rg.refl : Rg w18_4.heap.size wL6.heap.size 0 0 wd22 wd22)
            refine PZ_q rfl rfl rfl (fun wq hq => ev_fieldAddr fo29_0 rfl) ?_
            refine PZ_q rfl rfl rfl (fun wq hq => ev_load one27 rfl ((hB10.rg hq.1 (by omega)).cell rfl)) ?_
            refine PZ_q rfl rfl rfl (fun wq hq => ev_move rfl) ?_
            refine PZ_q rfl rfl rfl (fun wq hq => ev_fieldAddr fo29_0 rfl) ?_
            refine PZ_q rfl rfl rfl (fun wq hq => ev_load one27 rfl ((hB10.rg hq.1 (by omega)).cell rfl)) ?_
            refine PZ_q rfl rfl rfl (fun wq hq => ev_move rfl) ?_
            refine PZ_q rfl rfl rfl (fun wq hq => ev_indexAddr Try.underlying27 sz69 rfl rfl rfl (by omega) (by omega)) ?_
            refine PZ_q rfl rfl rfl (fun wq hq => ev_load one69 rfl (hq.1.cell' (hBk.cellAt e8 (by simp)) (by omega))) ?_
            refine PZ_q rfl rfl rfl (fun wq hq => ev_move rfl) ?_
            refine PZ_q rfl rfl rfl (fun wq hq => ev_move rfl) ?_
            refine PZ_q rfl rfl rfl (fun wq hq => ev_move rfl) ?_
            have hl89 : x.toNat < (nearA A r).length := by omega
            have ht89 := totL_le hl89
            obtain ⟨a89, c89, hc89, hr89⟩ := hI9.row hl89
            refine PZ_q rfl rfl rfl (fun wq hq => ev_indexAddr Try.underlying43 sz23 rfl rfl (hI9.isSome (by omega)) (by omega) (by omega)) ?_
            refine PZ_q rfl rfl rfl (fun wq hq => ev_load one23 rfl (hq.1.cell' hc89 (by have := hI9.rng (Nat.lt_of_le_of_lt (Nat.zero_le _) hl89); omega))) ?_
            refine PZ_q rfl rfl rfl (fun wq hq => ev_move rfl) ?_
            refine PZ_m rfl rfl rfl (ev_call rfl (Index_spec _ _ (nearA A r)[x.toNat] _ _ hr89 (by omega))) ?_
            rintro _ w92 ⟨rfl, hE92⟩
            have hz92 := hE92.size
            replace hE := hE.trans hE92
            replace hRL4 := hRL4.trans hE92
            replace hRL6 := hRL6.trans hE92
            replace hDd22 := hDd22.trans hE92
            replace hOA := hOA.ext hE92
            replace hO := hO.ext hE92
            refine ⟨⟨hDd22, trivial⟩, ?_⟩
            refine PZ_q rfl rfl rfl (fun wq hq => ev_build2 sn71_2 rfl rfl rfl rfl) ?_
            have hA_16 := hA.rg hDd22 (by omega)
            have hB2_16 := hB2.rg hDd22 (by omega)
            have hB4_16 := hB4.rg hDd22 (by omega)
            have hI9_16 := hI9.rg hDd22 (by omega)
            have hOi_16 := hOi.rg hDd22 (by omega)
            have hOp_16 := hOp.rg hDd22 (by omega)
            have hB10_16 := hB10.rg hDd22 (by omega)
            have hr71_16 := hr71.rg hDd22 (by omega)
            have hBk_16 := hBk.rg hDd22 (by omega)
            have hr89_16 := hr89.rg hDd22 (by omega)
            refine PZ_m rfl rfl rfl (ev_lit1 Try.underlying69 el71 (by decide) (by decide) rfl rfl) ?_
            rintro _ w94 ⟨rfl, hN94⟩
            have hz94 := hN94.size
            replace hE := hE.trans hN94.ext
            replace hRL4 := hRL4.trans hN94.ext
            replace hRL6 := hRL6.trans hN94.ext
            replace hDd22 := hDd22.trans hN94.ext
            replace hOA := hOA.ext hN94.ext
            replace hO := hO.ext hN94.ext
            have hB94 := hN94.blk
            refine ⟨⟨hDd22, trivial⟩, ?_⟩
            have hA_17 := hA.rg hDd22 (by omega)
            have hB2_17 := hB2.rg hDd22 (by omega)
            have hB4_17 := hB4.rg hDd22 (by omega)
            have hI9_17 := hI9.rg hDd22 (by omega)
            have hOi_17 := hOi.rg hDd22 (by omega)
            have hOp_17 := hOp.rg hDd22 (by omega)
            have hB10_17 := hB10.rg hDd22 (by omega)
            have hr71_17 := hr71.rg hDd22 (by omega)
            have hBk_17 := hBk.rg hDd22 (by omega)
            have hr89_17 := hr89.rg hDd22 (by omega)
            refine PZ_m rfl rfl rfl (ev_append Try.underlying69 el71 rfl (by decide) rfl rfl hO (SAt.of_blk (cs := [_, _]) (ds := []) hB94) rfl (by simp [Value.oneCell']) (by omega) (by unfold maxLen; omega) (by omega)) ?_
            rintro _ w95 ⟨a95, c95, rfl, hO95, hK95, hQ95⟩
            have hz95 := hK95.size
            replace hE := hE.app hK95 (fun q hq => by have := (hO.block q hq).1; have := hOt q hq; omega)
            replace hRL4 := hRL4.app hK95 (fun q hq => by have := (hO.block q hq).1; have := hOt q hq; omega)
            replace hRL6 := hRL6.app hK95 (fun q hq => by have := (hO.block q hq).1; have := hOt q hq; omega)
            replace hDd22 := hDd22.app hK95 (fun q hq => by have := (hO.block q hq).1; have := hOt q hq; omega)
            replace hO := hO95
            refine ⟨⟨hDd22, trivial⟩, ?_⟩
            refine PZ_q rfl rfl rfl (fun wq hq => ev_indexAddr Try.underlying27 sz69 rfl rfl rfl (by omega) (by omega)) ?_
            replace hA := hA.rg hDd22 (by omega)
            replace hB2 := hB2.rg hDd22 (by omega)
            replace hB4 := hB4.rg hDd22 (by omega)
            replace hI9 := hI9.rg hDd22 (by omega)
            replace hOi := hOi.rg hDd22 (by omega)
            replace hOp := hOp.rg hDd22 (by omega)
            replace hB10 := hB10.rg hDd22 (by omega)
            replace hr71 := hr71.rg hDd22 (by omega)
            replace hBk := hBk.rg hDd22 (by omega)
            replace hr89 := hr89.rg hDd22 (by omega)
            refine PZ_z rfl (ev_store sz69 rfl rfl rfl hBk (by simp; omega)) ?_
            rintro _ w22_19 hS22_19
            have hz22_19 := hS22_19.size
            replace hE := hE.sto hS22_19 (by omega)
            replace hRL4 := hRL4.sto hS22_19 (by omega)
            replace hRL6 := hRL6.sto hS22_19 (by omega)
            replace hA := hA.sto hS22_19 (by omega)
            replace hB2 := hB2.sto hS22_19 (by omega)
            replace hB4 := hB4.sto hS22_19 (by omega)
            replace hI9 := hI9.sto hS22_19 (by omega)
            replace hOi := hOi.sto hS22_19 (by omega)
            replace hOp := hOp.sto hS22_19 (by omega)
            replace hB10 := hB10.sto hS22_19 (by omega)
            replace hr71 := hr71.sto hS22_19 (by omega)
            replace hr89 := hr89.sto hS22_19 (by omega)
            replace hO := hO.sto hS22_19 (by omega)
            replace hBk := hS22_19.blk
            have hR3 := NR.put hbl hOA (by omega) hiv hvm (by omega) hvj (by omega) hK95 ((own_snocP hO95).mono (by omega)) (by simp) hQ95 hS22_19 (by omega) hBk
            refine PW_nil ?_
            refine blockE_n ?_
            refine thenE_n ?_
            refine W_region ?_
            refine WL_q rfl (ev_add rfl rfl (by omega)) ?_
            refine WL_q rfl (ev_move rfl) ?_
            refine WL_nil ?_
            refine thenE_n ?_
            exact ⟨k + 1, (Subs.c rfl (Subs.c rfl (Subs.c rfl (Subs.c rfl (Subs.c rfl (Subs.c rfl (Subs.c rfl (Subs.c rfl Subs.n)))))))), (Subs.c (lkI rfl (by omega)) Subs.n), ⟨hRL6, ⟨by omega, hR3.to (by rw [hxr, List.set_set, hax, powR_take (by omega) hxe2])⟩⟩, by first | omega | (dsimp only; omega)⟩
          · have hp75 := of_decide_eq_false hg75
            refine W_exit ?_
            refine thenE_x ?_
            refine thenE_x ?_
            refine blockE_hit ?_
            refine blockE_n ?_
            refine thenE_n ?_
            refine W_region ?_
            refine WL_q rfl (ev_add rfl rfl (by omega)) ?_
            refine WL_q rfl (ev_move rfl) ?_
            refine WL_nil ?_
            refine thenE_n ?_
            exact ⟨i + 1, (Subs.c rfl (Subs.c rfl (Subs.c rfl (Subs.c rfl Subs.n)))), (Subs.c (lkI rfl (by omega)) Subs.n), ⟨hRL4, ⟨by omega, hR.any.to (by have hk9 : k = (powR A r i).length := (by omega); subst hk9; rw [List.take_length]; exact mixF_set (f := powR A r) hilt)⟩⟩, by first | omega | (dsimp only; omega)⟩
        · have hp63 := of_decide_eq_false hg63
          refine W_exit ?_
          refine thenE_x ?_
          refine thenE_x ?_
          refine blockE_hit ?_
          refine thenE_n ?_
          refine W_seq ?_
          refine W_region ?_
          have hi9 : i = A.ends.length := by omega
          subst hi9
          have hON : OwnNet wL0.heap.size wL4.heap.size wL4 71 3 ⟨some ⟨b58, 0, none⟩, A.ends.length, x2, y2, x3, y3⟩ (powN A r) := NR.net (hR.to (mixF_full (f := powR A r) (Nat.le_refl _))) (by omega) (by omega) (by simp) (by unfold maxLen; simp; omega) hm1 hm2 hOi hOp
          have hNi := hON.is
          refine WL_q rfl (ev_loads st29 sz29 rfl (cellsB hB10) rfl) ?_
          refine WL_m rfl (ev_call rfl (network_len _ _ _ _ _ _ (powN A r) _ (by simp [powN]) rfl rfl hNi (by omega) (pow_tot hp15))) ?_
          rintro _ w100 ⟨h100, U100, q100, rfl, hq100, hE100⟩
          have hz100 := hE100.size
          replace hE := hE.trans hE100
          replace hA := hA.ext hE100
          replace hB2 := hB2.ext hE100
          replace hB4 := hB4.ext hE100
          replace hI9 := hI9.ext hE100
          replace hOi := hOi.ext hE100
          replace hOp := hOp.ext hE100
          replace hB10 := hB10.ext hE100
          replace hNi := hNi.ext hE100
          replace hON := hON.ext hE100
          refine WL_q rfl (ev_extract rfl rfl) ?_
          refine WL_q rfl (ev_extract rfl rfl) ?_
          refine WL_s (ev_stores sz29 rfl rfl rfl (by simp [Value.oneCell']) hB4 (by simp)) ?_
          rintro _ w25_4 hS25_4
          have hz25_4 := hS25_4.size
          replace hE := hE.sto hS25_4 (by omega)
          replace hA := hA.sto hS25_4 (by omega)
          replace hB2 := hB2.sto hS25_4 (by omega)
          replace hI9 := hI9.sto hS25_4 (by omega)
          replace hOi := hOi.sto hS25_4 (by omega)
          replace hOp := hOp.sto hS25_4 (by omega)
          replace hB10 := hB10.sto hS25_4 (by omega)
          replace hNi := hNi.sto hS25_4 (by omega)
          replace hON := hON.sto hS25_4 (by omega)
          replace hB4 : Blk w25_4 _ _ [_, _, _] := hS25_4.blk
          refine WL_q rfl (ev_assign rfl) ?_
          refine WL_nil ?_
          refine thenE_n ?_
          refine W_ret ?_
          refine retc2 rfl rfl st29 sz29 (cellsB hB4) rfl rfl ?_
          first | (exact ⟨⟨none, 0, none, 0, none, 0⟩, ⟨[], [], []⟩, _, rfl, .no (fun h => hp15 h.1.1), OwnNet.nil, by decide, hE⟩) | (exact ⟨⟨none, 0, none, 0, none, 0⟩, ⟨[], [], []⟩, _, rfl, .no (fun h => tf hg19 h.1.2), OwnNet.nil, by decide, hE⟩) | (exact hq100.elim (fun ⟨e1, h1, e2, e3⟩ => (by subst e1 e2 e3; exact ⟨_, powN A r, _, rfl, .yes ⟨⟨hp15, inR_true.2 hp19⟩, h1⟩ rfl, hON.up (by omega) (by omega), pow_tot hp15, hE⟩)) (fun ⟨e1, h1, e2, e3⟩ => (by subst e1 e2 e3; exact ⟨⟨none, 0, none, 0, none, 0⟩, ⟨[], [], []⟩, _, rfl, .no (fun h => h1 h.2), OwnNet.nil, by decide, hE⟩)))

theorem mixF_nil {α : Type} {f : Nat → List α} {n i : Nat} (h : i < n) : mixF f (List.replicate n []) i = (mixF f (List.replicate n []) i).set i ((f i).take 0) := by
  have h2 : i < (mixF f (List.replicate n []) i).length := by simpa [mixF_len] using h
  have e : (mixF f (List.replicate n []) i)[i] = (f i).take 0 := by rw [mixF_row (by simpa using h)]; simp
  rw [← e, List.set_getElem_self]
theorem srch_lt {L : List Int} {v : Int} {j : Nat} (hm : v ∈ L) (h : ∀ y (_ : y < j) (h2 : y < L.length), decide (v = L[y]) = false) : j < L.length := by
  obtain ⟨y, hy, e⟩ := List.mem_iff_getElem.1 hm
  by_cases k : y < j
  · have := h y k hy; rw [decide_eq_false_iff_not] at this; exact absurd e.symm this
  · omega
theorem nearA_take {A : Net} {r : Int} {i : Nat} {xs : List Int} (h : i < A.ends.length) (e : xs = nearL A r i) : (nearA A r).take i ++ [xs] = (nearA A r).take (i + 1) := by
  subst e
  rw [List.take_succ_eq_append_getElem (by rw [nearA_len]; exact h), nearA_at]

set_option maxHeartbeats 4000000 in
set_option maxRecDepth 100000 in
theorem mePower_spec {loA hiA : Nat} (nA : NA) (A : Net) (r : Int) (w : World) (hA : IsNet loA hiA w nA A) (hhiA : hiA ≤ w.heap.size) (hnA : totN A ≤ 1048576) (hkA : NOk A) :
    Fn Try.prog 52 #[netV nA A, VI r] w (fun o9 w' => ∃ h', o9 = netV h' (powN A r) ∧ IsNet w.heap.size w'.heap.size w' h' (powN A r) ∧ Ext w w') := by
  have hqA := totL_len A.ends
  have hmA : totL A.ends + A.ids.length + A.inputs.length ≤ 1048576 := hnA
  have hndA := hkA.nodes
  have hinA := hkA.inLen
  have hk := hkA.endsOk
  have hE := Ext.refl w
  refine Fn_of Try.func52 rfl rfl (by kernel_rfl) rfl ?_
  refine W_seq ?_
  refine W_region ?_
  refine WL_m rfl (ev_box rfl) ?_
  rintro _ w2 ⟨rfl, hN2⟩
  have hz2 := hN2.size
  replace hE := hE.trans hN2.ext
  replace hA := hA.ext hN2.ext
  have hB2 : Blk w2 _ _ [_, _, _] := hN2.blk
  refine WL_m rfl (ev_alloc zr29) ?_
  rintro _ w4 ⟨rfl, hN4⟩
  have hz4 := hN4.size
  replace hE := hE.trans hN4.ext
  replace hA := hA.ext hN4.ext
  replace hB2 := hB2.ext hN4.ext
  have hB4 : Blk w4 _ _ [_, _, _] := hN4.blk
  refine WL_nil ?_
  refine thenE_n ?_
  refine W_seq ?_
  refine W_drawT (X := Nat × Nat × Nat × Option Addr × Nat × Option Addr × Nat) (fun x => [(5, ptr x.1 0)]) (fun x w' => (w4.heap.size ≤ x.1 ∧ x.1 < w'.heap.size ∧ w4.heap.size ≤ x.2.1 ∧ x.2.1 < w'.heap.size ∧ x.1 ≠ x.2.1 ∧ w4.heap.size ≤ x.2.2.1 ∧ x.2.2.1 ≤ w'.heap.size) ∧ Blk w' x.1 29 [.slice (some ⟨x.2.1, 0, none⟩) A.ends.length A.ends.length, .slice x.2.2.2.1 A.ids.length x.2.2.2.2.1, .slice x.2.2.2.2.2.1 A.inputs.length x.2.2.2.2.2.2] ∧ Blk w' x.2.1 69 (List.replicate A.ends.length (.slice none 0 0)) ∧ OwnH w4.heap.size x.2.2.1 x.2.1 (x.2.1 + 1) w' 3 1 x.2.2.2.1 A.ids.length x.2.2.2.2.1 (A.ids.map VI) ∧ OwnH x.2.2.1 w'.heap.size x.2.1 (x.2.1 + 1) w' 3 1 x.2.2.2.2.2.1 A.inputs.length x.2.2.2.2.2.2 (A.inputs.map VI) ∧ Ext w4 w') w4.heap.size (by omega) (.q 0 (.q 1 (.q 2 (.q 4 (.q 5 (.q 7 (.q 8 (.c 3 (.b 6 (.b 9 (.q 10 (.a 11 (.a 12 .done))) 11 (.a 9 (.q 10 (.a 12 .done)))) 11 (.a 6 (.a 9 (.q 10 (.a 12 .done))))) 6 (.c 3 (.b 9 (.q 10 (.a 11 (.a 12 .done))) 11 (.a 9 (.q 10 (.a 12 .done)))) 9 (.b 3 (.q 10 (.a 11 (.a 12 .done))) 11 (.a 3 (.q 10 (.a 12 .done)))) 11 (.b 3 (.a 9 (.q 10 (.a 12 .done))) 9 (.a 3 (.q 10 (.a 12 .done))))) 11 (.b 3 (.a 6 (.a 9 (.q 10 (.a 12 .done)))) 6 (.b 3 (.a 9 (.q 10 (.a 12 .done))) 9 (.a 3 (.q 10 (.a 12 .done))))))))))))) mixed (by kernel_rfl) rfl (by kernel_rfl) ?_ ?_
  · have hT := Ext.refl w4
    intro wd1 hEd1 hzd1
    replace hE := hE.trans hEd1
    replace hT := hT.trans hEd1
    replace hA := hA.ext hEd1
    replace hB2 := hB2.ext hEd1
    replace hB4 := hB4.ext hEd1
    have hDd1 := (Lo.refl (by omega) : Lo w4.heap.size wd1 wd1)
    refine PT_q rfl rfl (fun wq hq => ev_fieldAddr fo29_0 rfl) ?_
    refine PT_q rfl rfl (fun wq hq => ev_load one27 rfl ((hB2.lo hq.1 (by omega)).cell rfl)) ?_
    refine PT_q rfl rfl (fun wq hq => ev_len Try.underlying27 rfl) ?_
    refine PT_q rfl rfl (fun wq hq => ev_fieldAddr fo29_1 rfl) ?_
    refine PT_q rfl rfl (fun wq hq => ev_load one23 rfl ((hB2.lo hq.1 (by omega)).cell rfl)) ?_
    refine PT_q rfl rfl (fun wq hq => ev_fieldAddr fo29_2 rfl) ?_
    refine PT_q rfl rfl (fun wq hq => ev_load one23 rfl ((hB2.lo hq.1 (by omega)).cell rfl)) ?_
    refine PT_c ?_ ?_ ?_
    · refine PA_m w4.heap.size rfl rfl (ev_makeN Try.underlying27 el69 rfl rfl rfl (by omega) (by omega)) ?_
      rintro _ w19 ⟨rfl, hN19⟩
      have hz19 := hN19.size
      replace hE := hE.trans hN19.ext
      replace hT := hT.trans hN19.ext
      replace hDd1 := hDd1.trans hN19.ext
      replace hA := hA.ext hN19.ext
      replace hB2 := hB2.ext hN19.ext
      replace hB4 := hB4.ext hN19.ext
      have hB19 := hN19.blk
      refine ⟨by omega, fun _ hx => ⟨hDd1.lo hx (by omega), trivial⟩, ?_⟩
      have hDd1 := (Lo.refl (by omega) : Lo w4.heap.size w19 w19)
      refine PT_b ?_ ?_
      · refine PA_m w4.heap.size rfl rfl (ev_call rfl (l1Own_own _ _ A.ids _ hA.ids (by omega) (by omega))) ?_
        rintro _ w22 ⟨a22, c22, rfl, hO22, hE22⟩
        have hz22 := hE22.size
        replace hE := hE.trans hE22
        replace hT := hT.trans hE22
        replace hDd1 := hDd1.trans hE22
        replace hA := hA.ext hE22
        replace hB2 := hB2.ext hE22
        replace hB4 := hB4.ext hE22
        replace hB19 := hB19.ext hE22
        replace hO22 := hO22.h
        refine ⟨by omega, fun _ hx => ⟨hDd1.lo hx (by omega), trivial⟩, ?_⟩
        have hDd1 := (Lo.refl (by omega) : Lo w4.heap.size w22 w22)
        refine PT_b ?_ ?_
        · refine PA_m w4.heap.size rfl rfl (ev_call rfl (l1Own_own _ _ A.inputs _ hA.inputs (by omega) (by omega))) ?_
          rintro _ w25 ⟨a25, c25, rfl, hO25, hE25⟩
          have hz25 := hE25.size
          replace hE := hE.trans hE25
          replace hT := hT.trans hE25
          replace hDd1 := hDd1.trans hE25
          replace hA := hA.ext hE25
          replace hB2 := hB2.ext hE25
          replace hB4 := hB4.ext hE25
          replace hB19 := hB19.ext hE25
          replace hO22 := hO22.ext hE25
          replace hO25 := hO25.h
          refine ⟨by omega, fun _ hx => ⟨hDd1.lo hx (by omega), trivial⟩, ?_⟩
          have hDd1 := (Lo.refl (by omega) : Lo w4.heap.size w25 w25)
          refine PT_q rfl rfl (fun wq hq => ev_build3 sn29_3 rfl rfl rfl rfl rfl rfl) ?_
          refine PT_a ?_
          refine PA_m w4.heap.size rfl rfl (ev_alloc zr29) ?_
          rintro _ w5 ⟨rfl, hN5⟩
          have hz5 := hN5.size
          replace hE := hE.trans hN5.ext
          replace hT := hT.trans hN5.ext
          replace hDd1 := hDd1.trans hN5.ext
          replace hA := hA.ext hN5.ext
          replace hB2 := hB2.ext hN5.ext
          replace hB4 := hB4.ext hN5.ext
          replace hB19 := hB19.ext hN5.ext
          replace hO22 := hO22.ext hN5.ext
          replace hO25 := hO25.ext hN5.ext
          have hB5 : Blk w5 _ _ [_, _, _] := hN5.blk
          refine ⟨by omega, fun _ hx => ⟨hDd1.lo hx (by omega), trivial⟩, ?_⟩
          have hDd1 := (Lo.refl (by omega) : Lo w4.heap.size w5 w5)
          refine PT_a ?_
          refine PA_s w4.heap.size rfl (ev_stores sz29 rfl rfl rfl (by simp [Value.oneCell']) hB5 (by simp)) ?_
          rintro _ w1_12 hS1_12
          have hz1_12 := hS1_12.size
          replace hE := hE.sto hS1_12 (by omega)
          replace hT := hT.sto hS1_12 (by omega)
          replace hDd1 := hDd1.sto hS1_12 (by omega)
          replace hA := hA.sto hS1_12 (by omega)
          replace hB2 := hB2.sto hS1_12 (by omega)
          replace hB4 := hB4.sto hS1_12 (by omega)
          replace hB19 := hB19.sto hS1_12 (by omega)
          replace hO22 := hO22.sto hS1_12 (by omega)
          replace hO25 := hO25.sto hS1_12 (by omega)
          replace hB5 : Blk w1_12 _ _ [_, _, _] := hS1_12.blk
          refine ⟨by omega, fun _ hx => ⟨hDd1.lo hx (by omega), trivial⟩, ?_⟩
          have hDd1 := (Lo.refl (by omega) : Lo w4.heap.size w1_12 w1_12)
          exact PT_nil 12 ⟨hB5.num, hB19.num, w22.heap.size, a22, c22, a25, c25⟩ rfl ⟨rfl, trivial⟩ rfl ⟨⟨by (try dsimp only [Blk.num]); omega, by (try dsimp only [Blk.num]); omega, by (try dsimp only [Blk.num]); omega, by (try dsimp only [Blk.num]); omega, by (try dsimp only [Blk.num]); omega, by (try dsimp only [Blk.num]); omega, by (try dsimp only [Blk.num]); omega⟩, hB5, hB19, hO22.off (by (try dsimp only [Blk.num]); omega) (by (try dsimp only [Blk.num]); omega) (by (try dsimp only [Blk.num]); omega), hO25.off (by (try dsimp only [Blk.num]); omega) (by (try dsimp only [Blk.num]); omega) (by (try dsimp only [Blk.num]); omega), hT⟩
        · refine PA_m w4.heap.size rfl rfl (ev_alloc zr29) ?_
          rintro _ w5 ⟨rfl, hN5⟩
          have hz5 := hN5.size
          replace hE := hE.trans hN5.ext
          replace hT := hT.trans hN5.ext
          replace hDd1 := hDd1.trans hN5.ext
          replace hA := hA.ext hN5.ext
          replace hB2 := hB2.ext hN5.ext
          replace hB4 := hB4.ext hN5.ext
          replace hB19 := hB19.ext hN5.ext
          replace hO22 := hO22.ext hN5.ext
          have hB5 : Blk w5 _ _ [_, _, _] := hN5.blk
          refine ⟨by omega, fun _ hx => ⟨hDd1.lo hx (by omega), trivial⟩, ?_⟩
          have hDd1 := (Lo.refl (by omega) : Lo w4.heap.size w5 w5)
          refine PT_a ?_
          refine PA_m w4.heap.size rfl rfl (ev_call rfl (l1Own_own _ _ A.inputs _ hA.inputs (by omega) (by omega))) ?_
          rintro _ w25 ⟨a25, c25, rfl, hO25, hE25⟩
          have hz25 := hE25.size
          replace hE := hE.trans hE25
          replace hT := hT.trans hE25
          replace hDd1 := hDd1.trans hE25
          replace hA := hA.ext hE25
          replace hB2 := hB2.ext hE25
          replace hB4 := hB4.ext hE25
          replace hB19 := hB19.ext hE25
          replace hO22 := hO22.ext hE25
          replace hB5 := hB5.ext hE25
          replace hO25 := hO25.h
          refine ⟨by omega, fun _ hx => ⟨hDd1.lo hx (by omega), trivial⟩, ?_⟩
          have hDd1 := (Lo.refl (by omega) : Lo w4.heap.size w25 w25)
          refine PT_q rfl rfl (fun wq hq => ev_build3 sn29_3 rfl rfl rfl rfl rfl rfl) ?_
          refine PT_a ?_
          refine PA_s w4.heap.size rfl (ev_stores sz29 rfl rfl rfl (by simp [Value.oneCell']) hB5 (by simp)) ?_
          rintro _ w1_12 hS1_12
          have hz1_12 := hS1_12.size
          replace hE := hE.sto hS1_12 (by omega)
          replace hT := hT.sto hS1_12 (by omega)
          replace hDd1 := hDd1.sto hS1_12 (by omega)
          replace hA := hA.sto hS1_12 (by omega)
          replace hB2 := hB2.sto hS1_12 (by omega)
          replace hB4 := hB4.sto hS1_12 (by omega)
          replace hB19 := hB19.sto hS1_12 (by omega)
          replace hO22 := hO22.sto hS1_12 (by omega)
          replace hO25 := hO25.sto hS1_12 (by omega)
          replace hB5 : Blk w1_12 _ _ [_, _, _] := hS1_12.blk
          refine ⟨by omega, fun _ hx => ⟨hDd1.lo hx (by omega), trivial⟩, ?_⟩
          have hDd1 := (Lo.refl (by omega) : Lo w4.heap.size w1_12 w1_12)
          exact PT_nil 12 ⟨hB5.num, hB19.num, w22.heap.size, a22, c22, a25, c25⟩ rfl ⟨rfl, trivial⟩ rfl ⟨⟨by (try dsimp only [Blk.num]); omega, by (try dsimp only [Blk.num]); omega, by (try dsimp only [Blk.num]); omega, by (try dsimp only [Blk.num]); omega, by (try dsimp only [Blk.num]); omega, by (try dsimp only [Blk.num]); omega, by (try dsimp only [Blk.num]); omega⟩, hB5, hB19, hO22.off (by (try dsimp only [Blk.num]); omega) (by (try dsimp only [Blk.num]); omega) (by (try dsimp only [Blk.num]); omega), hO25.off (by (try dsimp only [Blk.num]); omega) (by (try dsimp only [Blk.num]); omega) (by (try dsimp only [Blk.num]); omega), hT⟩
      · refine PA_m w4.heap.size rfl rfl (ev_alloc zr29) ?_
        rintro _ w5 ⟨rfl, hN5⟩
        have hz5 := hN5.size
        replace hE := hE.trans hN5.ext
        replace hT := hT.trans hN5.ext
        replace hDd1 := hDd1.trans hN5.ext
        replace hA := hA.ext hN5.ext
        replace hB2 := hB2.ext hN5.ext
        replace hB4 := hB4.ext hN5.ext
        replace hB19 := hB19.ext hN5.ext
        have hB5 : Blk w5 _ _ [_, _, _] := hN5.blk
        refine ⟨by omega, fun _ hx => ⟨hDd1.lo hx (by omega), trivial⟩, ?_⟩
        have hDd1 := (Lo.refl (by omega) : Lo w4.heap.size w5 w5)
        refine PT_a ?_
        refine PA_m w4.heap.size rfl rfl (ev_call rfl (l1Own_own _ _ A.ids _ hA.ids (by omega) (by omega))) ?_
        rintro _ w22 ⟨a22, c22, rfl, hO22, hE22⟩
        have hz22 := hE22.size
        replace hE := hE.trans hE22
        replace hT := hT.trans hE22
        replace hDd1 := hDd1.trans hE22
        replace hA := hA.ext hE22
        replace hB2 := hB2.ext hE22
        replace hB4 := hB4.ext hE22
        replace hB19 := hB19.ext hE22
        replace hB5 := hB5.ext hE22
        replace hO22 := hO22.h
        refine ⟨by omega, fun _ hx => ⟨hDd1.lo hx (by omega), trivial⟩, ?_⟩
        have hDd1 := (Lo.refl (by omega) : Lo w4.heap.size w22 w22)
        refine PT_a ?_
        refine PA_m w4.heap.size rfl rfl (ev_call rfl (l1Own_own _ _ A.inputs _ hA.inputs (by omega) (by omega))) ?_
        rintro _ w25 ⟨a25, c25, rfl, hO25, hE25⟩
        have hz25 := hE25.size
        replace hE := hE.trans hE25
        replace hT := hT.trans hE25
        replace hDd1 := hDd1.trans hE25
        replace hA := hA.ext hE25
        replace hB2 := hB2.ext hE25
        replace hB4 := hB4.ext hE25
        replace hB19 := hB19.ext hE25
        replace hB5 := hB5.ext hE25
        replace hO22 := hO22.ext hE25
        replace hO25 := hO25.h
        refine ⟨by omega, fun _ hx => ⟨hDd1.lo hx (by omega), trivial⟩, ?_⟩
        have hDd1 := (Lo.refl (by omega) : Lo w4.heap.size w25 w25)
        refine PT_q rfl rfl (fun wq hq => ev_build3 sn29_3 rfl rfl rfl rfl rfl rfl) ?_
        refine PT_a ?_
        refine PA_s w4.heap.size rfl (ev_stores sz29 rfl rfl rfl (by simp [Value.oneCell']) hB5 (by simp)) ?_
        rintro _ w1_12 hS1_12
        have hz1_12 := hS1_12.size
        replace hE := hE.sto hS1_12 (by omega)
        replace hT := hT.sto hS1_12 (by omega)
        replace hDd1 := hDd1.sto hS1_12 (by omega)
        replace hA := hA.sto hS1_12 (by omega)
        replace hB2 := hB2.sto hS1_12 (by omega)
        replace hB4 := hB4.sto hS1_12 (by omega)
        replace hB19 := hB19.sto hS1_12 (by omega)
        replace hO22 := hO22.sto hS1_12 (by omega)
        replace hO25 := hO25.sto hS1_12 (by omega)
        replace hB5 : Blk w1_12 _ _ [_, _, _] := hS1_12.blk
        refine ⟨by omega, fun _ hx => ⟨hDd1.lo hx (by omega), trivial⟩, ?_⟩
        have hDd1 := (Lo.refl (by omega) : Lo w4.heap.size w1_12 w1_12)
        exact PT_nil 12 ⟨hB5.num, hB19.num, w22.heap.size, a22, c22, a25, c25⟩ rfl ⟨rfl, trivial⟩ rfl ⟨⟨by (try dsimp only [Blk.num]); omega, by (try dsimp only [Blk.num]); omega, by (try dsimp only [Blk.num]); omega, by (try dsimp only [Blk.num]); omega, by (try dsimp only [Blk.num]); omega, by (try dsimp only [Blk.num]); omega, by (try dsimp only [Blk.num]); omega⟩, hB5, hB19, hO22.off (by (try dsimp only [Blk.num]); omega) (by (try dsimp only [Blk.num]); omega) (by (try dsimp only [Blk.num]); omega), hO25.off (by (try dsimp only [Blk.num]); omega) (by (try dsimp only [Blk.num]); omega) (by (try dsimp only [Blk.num]); omega), hT⟩
    · refine PA_m w4.heap.size rfl rfl (ev_call rfl (l1Own_own _ _ A.ids _ hA.ids (by omega) (by omega))) ?_
      rintro _ w22 ⟨a22, c22, rfl, hO22, hE22⟩
      have hz22 := hE22.size
      replace hE := hE.trans hE22
      replace hT := hT.trans hE22
      replace hDd1 := hDd1.trans hE22
      replace hA := hA.ext hE22
      replace hB2 := hB2.ext hE22
      replace hB4 := hB4.ext hE22
      replace hO22 := hO22.h
      refine ⟨by omega, fun _ hx => ⟨hDd1.lo hx (by omega), trivial⟩, ?_⟩
      have hDd1 := (Lo.refl (by omega) : Lo w4.heap.size w22 w22)
      refine PT_c ?_ ?_ ?_
      · refine PA_m w4.heap.size rfl rfl (ev_makeN Try.underlying27 el69 rfl rfl rfl (by omega) (by omega)) ?_
        rintro _ w19 ⟨rfl, hN19⟩
        have hz19 := hN19.size
        replace hE := hE.trans hN19.ext
        replace hT := hT.trans hN19.ext
        replace hDd1 := hDd1.trans hN19.ext
        replace hA := hA.ext hN19.ext
        replace hB2 := hB2.ext hN19.ext
        replace hB4 := hB4.ext hN19.ext
        replace hO22 := hO22.ext hN19.ext
        have hB19 := hN19.blk
        refine ⟨by omega, fun _ hx => ⟨hDd1.lo hx (by omega), trivial⟩, ?_⟩
        have hDd1 := (Lo.refl (by omega) : Lo w4.heap.size w19 w19)
        refine PT_b ?_ ?_
        · refine PA_m w4.heap.size rfl rfl (ev_call rfl (l1Own_own _ _ A.inputs _ hA.inputs (by omega) (by omega))) ?_
          rintro _ w25 ⟨a25, c25, rfl, hO25, hE25⟩
          have hz25 := hE25.size
          replace hE := hE.trans hE25
          replace hT := hT.trans hE25
          replace hDd1 := hDd1.trans hE25
          replace hA := hA.ext hE25
          replace hB2 := hB2.ext hE25
          replace hB4 := hB4.ext hE25
          replace hO22 := hO22.ext hE25
          replace hB19 := hB19.ext hE25
          replace hO25 := hO25.h
          refine ⟨by omega, fun _ hx => ⟨hDd1.lo hx (by omega), trivial⟩, ?_⟩
          have hDd1 := (Lo.refl (by omega) : Lo w4.heap.size w25 w25)
          refine PT_q rfl rfl (fun wq hq => ev_build3 sn29_3 rfl rfl rfl rfl rfl rfl) ?_
          refine PT_a ?_
          refine PA_m w4.heap.size rfl rfl (ev_alloc zr29) ?_
          rintro _ w5 ⟨rfl, hN5⟩
          have hz5 := hN5.size
          replace hE := hE.trans hN5.ext
          replace hT := hT.trans hN5.ext
          replace hDd1 := hDd1.trans hN5.ext
          replace hA := hA.ext hN5.ext
          replace hB2 := hB2.ext hN5.ext
          replace hB4 := hB4.ext hN5.ext
          replace hO22 := hO22.ext hN5.ext
          replace hB19 := hB19.ext hN5.ext
          replace hO25 := hO25.ext hN5.ext
          have hB5 : Blk w5 _ _ [_, _, _] := hN5.blk
          refine ⟨by omega, fun _ hx => ⟨hDd1.lo hx (by omega), trivial⟩, ?_⟩
          have hDd1 := (Lo.refl (by omega) : Lo w4.heap.size w5 w5)
          refine PT_a ?_
          refine PA_s w4.heap.size rfl (ev_stores sz29 rfl rfl rfl (by simp [Value.oneCell']) hB5 (by simp)) ?_
          rintro _ w1_12 hS1_12
          have hz1_12 := hS1_12.size
          replace hE := hE.sto hS1_12 (by omega)
          replace hT := hT.sto hS1_12 (by omega)
          replace hDd1 := hDd1.sto hS1_12 (by omega)
          replace hA := hA.sto hS1_12 (by omega)
          replace hB2 := hB2.sto hS1_12 (by omega)
          replace hB4 := hB4.sto hS1_12 (by omega)
          replace hO22 := hO22.sto hS1_12 (by omega)
          replace hB19 := hB19.sto hS1_12 (by omega)
          replace hO25 := hO25.sto hS1_12 (by omega)
          replace hB5 : Blk w1_12 _ _ [_, _, _] := hS1_12.blk
          refine ⟨by omega, fun _ hx => ⟨hDd1.lo hx (by omega), trivial⟩, ?_⟩
          have hDd1 := (Lo.refl (by omega) : Lo w4.heap.size w1_12 w1_12)
          exact PT_nil 12 ⟨hB5.num, hB19.num, w22.heap.size, a22, c22, a25, c25⟩ rfl ⟨rfl, trivial⟩ rfl ⟨⟨by (try dsimp only [Blk.num]); omega, by (try dsimp only [Blk.num]); omega, by (try dsimp only [Blk.num]); omega, by (try dsimp only [Blk.num]); omega, by (try dsimp only [Blk.num]); omega, by (try dsimp only [Blk.num]); omega, by (try dsimp only [Blk.num]); omega⟩, hB5, hB19, hO22.off (by (try dsimp only [Blk.num]); omega) (by (try dsimp only [Blk.num]); omega) (by (try dsimp only [Blk.num]); omega), hO25.off (by (try dsimp only [Blk.num]); omega) (by (try dsimp only [Blk.num]); omega) (by (try dsimp only [Blk.num]); omega), hT⟩
        · refine PA_m w4.heap.size rfl rfl (ev_alloc zr29) ?_
          rintro _ w5 ⟨rfl, hN5⟩
          have hz5 := hN5.size
          replace hE := hE.trans hN5.ext
          replace hT := hT.trans hN5.ext
          replace hDd1 := hDd1.trans hN5.ext
          replace hA := hA.ext hN5.ext
          replace hB2 := hB2.ext hN5.ext
          replace hB4 := hB4.ext hN5.ext
          replace hO22 := hO22.ext hN5.ext
          replace hB19 := hB19.ext hN5.ext
          have hB5 : Blk w5 _ _ [_, _, _] := hN5.blk
          refine ⟨by omega, fun _ hx => ⟨hDd1.lo hx (by omega), trivial⟩, ?_⟩
          have hDd1 := (Lo.refl (by omega) : Lo w4.heap.size w5 w5)
          refine PT_a ?_
          refine PA_m w4.heap.size rfl rfl (ev_call rfl (l1Own_own _ _ A.inputs _ hA.inputs (by omega) (by omega))) ?_
          rintro _ w25 ⟨a25, c25, rfl, hO25, hE25⟩
          have hz25 := hE25.size
          replace hE := hE.trans hE25
          replace hT := hT.trans hE25
          replace hDd1 := hDd1.trans hE25
          replace hA := hA.ext hE25
          replace hB2 := hB2.ext hE25
          replace hB4 := hB4.ext hE25
          replace hO22 := hO22.ext hE25
          replace hB19 := hB19.ext hE25
          replace hB5 := hB5.ext hE25
          replace hO25 := hO25.h
          refine ⟨by omega, fun _ hx => ⟨hDd1.lo hx (by omega), trivial⟩, ?_⟩
          have hDd1 := (Lo.refl (by omega) : Lo w4.heap.size w25 w25)
          refine PT_q rfl rfl (fun wq hq => ev_build3 sn29_3 rfl rfl rfl rfl rfl rfl) ?_
          refine PT_a ?_
          refine PA_s w4.heap.size rfl (ev_stores sz29 rfl rfl rfl (by simp [Value.oneCell']) hB5 (by simp)) ?_
          rintro _ w1_12 hS1_12
          have hz1_12 := hS1_12.size
          replace hE := hE.sto hS1_12 (by omega)
          replace hT := hT.sto hS1_12 (by omega)
          replace hDd1 := hDd1.sto hS1_12 (by omega)
          replace hA := hA.sto hS1_12 (by omega)
          replace hB2 := hB2.sto hS1_12 (by omega)
          replace hB4 := hB4.sto hS1_12 (by omega)
          replace hO22 := hO22.sto hS1_12 (by omega)
          replace hB19 := hB19.sto hS1_12 (by omega)
          replace hO25 := hO25.sto hS1_12 (by omega)
          replace hB5 : Blk w1_12 _ _ [_, _, _] := hS1_12.blk
          refine ⟨by omega, fun _ hx => ⟨hDd1.lo hx (by omega), trivial⟩, ?_⟩
          have hDd1 := (Lo.refl (by omega) : Lo w4.heap.size w1_12 w1_12)
          exact PT_nil 12 ⟨hB5.num, hB19.num, w22.heap.size, a22, c22, a25, c25⟩ rfl ⟨rfl, trivial⟩ rfl ⟨⟨by (try dsimp only [Blk.num]); omega, by (try dsimp only [Blk.num]); omega, by (try dsimp only [Blk.num]); omega, by (try dsimp only [Blk.num]); omega, by (try dsimp only [Blk.num]); omega, by (try dsimp only [Blk.num]); omega, by (try dsimp only [Blk.num]); omega⟩, hB5, hB19, hO22.off (by (try dsimp only [Blk.num]); omega) (by (try dsimp only [Blk.num]); omega) (by (try dsimp only [Blk.num]); omega), hO25.off (by (try dsimp only [Blk.num]); omega) (by (try dsimp only [Blk.num]); omega) (by (try dsimp only [Blk.num]); omega), hT⟩
      · refine PA_m w4.heap.size rfl rfl (ev_call rfl (l1Own_own _ _ A.inputs _ hA.inputs (by omega) (by omega))) ?_
        rintro _ w25 ⟨a25, c25, rfl, hO25, hE25⟩
        have hz25 := hE25.size
        replace hE := hE.trans hE25
        replace hT := hT.trans hE25
        replace hDd1 := hDd1.trans hE25
        replace hA := hA.ext hE25
        replace hB2 := hB2.ext hE25
        replace hB4 := hB4.ext hE25
        replace hO22 := hO22.ext hE25
        replace hO25 := hO25.h
        refine ⟨by omega, fun _ hx => ⟨hDd1.lo hx (by omega), trivial⟩, ?_⟩
        have hDd1 := (Lo.refl (by omega) : Lo w4.heap.size w25 w25)
        refine PT_b ?_ ?_
        · refine PA_m w4.heap.size rfl rfl (ev_makeN Try.underlying27 el69 rfl rfl rfl (by omega) (by omega)) ?_
          rintro _ w19 ⟨rfl, hN19⟩
          have hz19 := hN19.size
          replace hE := hE.trans hN19.ext
          replace hT := hT.trans hN19.ext
          replace hDd1 := hDd1.trans hN19.ext
          replace hA := hA.ext hN19.ext
          replace hB2 := hB2.ext hN19.ext
          replace hB4 := hB4.ext hN19.ext
          replace hO22 := hO22.ext hN19.ext
          replace hO25 := hO25.ext hN19.ext
          have hB19 := hN19.blk
          refine ⟨by omega, fun _ hx => ⟨hDd1.lo hx (by omega), trivial⟩, ?_⟩
          have hDd1 := (Lo.refl (by omega) : Lo w4.heap.size w19 w19)
          refine PT_q rfl rfl (fun wq hq => ev_build3 sn29_3 rfl rfl rfl rfl rfl rfl) ?_
          refine PT_a ?_
          refine PA_m w4.heap.size rfl rfl (ev_alloc zr29) ?_
          rintro _ w5 ⟨rfl, hN5⟩
          have hz5 := hN5.size
          replace hE := hE.trans hN5.ext
          replace hT := hT.trans hN5.ext
          replace hDd1 := hDd1.trans hN5.ext
          replace hA := hA.ext hN5.ext
          replace hB2 := hB2.ext hN5.ext
          replace hB4 := hB4.ext hN5.ext
          replace hO22 := hO22.ext hN5.ext
          replace hO25 := hO25.ext hN5.ext
          replace hB19 := hB19.ext hN5.ext
          have hB5 : Blk w5 _ _ [_, _, _] := hN5.blk
          refine ⟨by omega, fun _ hx => ⟨hDd1.lo hx (by omega), trivial⟩, ?_⟩
          have hDd1 := (Lo.refl (by omega) : Lo w4.heap.size w5 w5)
          refine PT_a ?_
          refine PA_s w4.heap.size rfl (ev_stores sz29 rfl rfl rfl (by simp [Value.oneCell']) hB5 (by simp)) ?_
          rintro _ w1_12 hS1_12
          have hz1_12 := hS1_12.size
          replace hE := hE.sto hS1_12 (by omega)
          replace hT := hT.sto hS1_12 (by omega)
          replace hDd1 := hDd1.sto hS1_12 (by omega)
          replace hA := hA.sto hS1_12 (by omega)
          replace hB2 := hB2.sto hS1_12 (by omega)
          replace hB4 := hB4.sto hS1_12 (by omega)
          replace hO22 := hO22.sto hS1_12 (by omega)
          replace hO25 := hO25.sto hS1_12 (by omega)
          replace hB19 := hB19.sto hS1_12 (by omega)
          replace hB5 : Blk w1_12 _ _ [_, _, _] := hS1_12.blk
          refine ⟨by omega, fun _ hx => ⟨hDd1.lo hx (by omega), trivial⟩, ?_⟩
          have hDd1 := (Lo.refl (by omega) : Lo w4.heap.size w1_12 w1_12)
          exact PT_nil 12 ⟨hB5.num, hB19.num, w22.heap.size, a22, c22, a25, c25⟩ rfl ⟨rfl, trivial⟩ rfl ⟨⟨by (try dsimp only [Blk.num]); omega, by (try dsimp only [Blk.num]); omega, by (try dsimp only [Blk.num]); omega, by (try dsimp only [Blk.num]); omega, by (try dsimp only [Blk.num]); omega, by (try dsimp only [Blk.num]); omega, by (try dsimp only [Blk.num]); omega⟩, hB5, hB19, hO22.off (by (try dsimp only [Blk.num]); omega) (by (try dsimp only [Blk.num]); omega) (by (try dsimp only [Blk.num]); omega), hO25.off (by (try dsimp only [Blk.num]); omega) (by (try dsimp only [Blk.num]); omega) (by (try dsimp only [Blk.num]); omega), hT⟩
        · refine PA_m w4.heap.size rfl rfl (ev_alloc zr29) ?_
          rintro _ w5 ⟨rfl, hN5⟩
          have hz5 := hN5.size
          replace hE := hE.trans hN5.ext
          replace hT := hT.trans hN5.ext
          replace hDd1 := hDd1.trans hN5.ext
          replace hA := hA.ext hN5.ext
          replace hB2 := hB2.ext hN5.ext
          replace hB4 := hB4.ext hN5.ext
          replace hO22 := hO22.ext hN5.ext
          replace hO25 := hO25.ext hN5.ext
          have hB5 : Blk w5 _ _ [_, _, _] := hN5.blk
          refine ⟨by omega, fun _ hx => ⟨hDd1.lo hx (by omega), trivial⟩, ?_⟩
          have hDd1 := (Lo.refl (by omega) : Lo w4.heap.size w5 w5)
          refine PT_a ?_
          refine PA_m w4.heap.size rfl rfl (ev_makeN Try.underlying27 el69 rfl rfl rfl (by omega) (by omega)) ?_
          rintro _ w19 ⟨rfl, hN19⟩
          have hz19 := hN19.size
          replace hE := hE.trans hN19.ext
          replace hT := hT.trans hN19.ext
          replace hDd1 := hDd1.trans hN19.ext
          replace hA := hA.ext hN19.ext
          replace hB2 := hB2.ext hN19.ext
          replace hB4 := hB4.ext hN19.ext
          replace hO22 := hO22.ext hN19.ext
          replace hO25 := hO25.ext hN19.ext
          replace hB5 := hB5.ext hN19.ext
          have hB19 := hN19.blk
          refine ⟨by omega, fun _ hx => ⟨hDd1.lo hx (by omega), trivial⟩, ?_⟩
          have hDd1 := (Lo.refl (by omega) : Lo w4.heap.size w19 w19)
          refine PT_q rfl rfl (fun wq hq => ev_build3 sn29_3 rfl rfl rfl rfl rfl rfl) ?_
          refine PT_a ?_
          refine PA_s w4.heap.size rfl (ev_stores sz29 rfl rfl rfl (by simp [Value.oneCell']) hB5 (by simp)) ?_
          rintro _ w1_12 hS1_12
          have hz1_12 := hS1_12.size
          replace hE := hE.sto hS1_12 (by omega)
          replace hT := hT.sto hS1_12 (by omega)
          replace hDd1 := hDd1.sto hS1_12 (by omega)
          replace hA := hA.sto hS1_12 (by omega)
          replace hB2 := hB2.sto hS1_12 (by omega)
          replace hB4 := hB4.sto hS1_12 (by omega)
          replace hO22 := hO22.sto hS1_12 (by omega)
          replace hO25 := hO25.sto hS1_12 (by omega)
          replace hB19 := hB19.sto hS1_12 (by omega)
          replace hB5 : Blk w1_12 _ _ [_, _, _] := hS1_12.blk
          refine ⟨by omega, fun _ hx => ⟨hDd1.lo hx (by omega), trivial⟩, ?_⟩
          have hDd1 := (Lo.refl (by omega) : Lo w4.heap.size w1_12 w1_12)
          exact PT_nil 12 ⟨hB5.num, hB19.num, w22.heap.size, a22, c22, a25, c25⟩ rfl ⟨rfl, trivial⟩ rfl ⟨⟨by (try dsimp only [Blk.num]); omega, by (try dsimp only [Blk.num]); omega, by (try dsimp only [Blk.num]); omega, by (try dsimp only [Blk.num]); omega, by (try dsimp only [Blk.num]); omega, by (try dsimp only [Blk.num]); omega, by (try dsimp only [Blk.num]); omega⟩, hB5, hB19, hO22.off (by (try dsimp only [Blk.num]); omega) (by (try dsimp only [Blk.num]); omega) (by (try dsimp only [Blk.num]); omega), hO25.off (by (try dsimp only [Blk.num]); omega) (by (try dsimp only [Blk.num]); omega) (by (try dsimp only [Blk.num]); omega), hT⟩
      · refine PA_m w4.heap.size rfl rfl (ev_alloc zr29) ?_
        rintro _ w5 ⟨rfl, hN5⟩
        have hz5 := hN5.size
        replace hE := hE.trans hN5.ext
        replace hT := hT.trans hN5.ext
        replace hDd1 := hDd1.trans hN5.ext
        replace hA := hA.ext hN5.ext
        replace hB2 := hB2.ext hN5.ext
        replace hB4 := hB4.ext hN5.ext
        replace hO22 := hO22.ext hN5.ext
        have hB5 : Blk w5 _ _ [_, _, _] := hN5.blk
        refine ⟨by omega, fun _ hx => ⟨hDd1.lo hx (by omega), trivial⟩, ?_⟩
        have hDd1 := (Lo.refl (by omega) : Lo w4.heap.size w5 w5)
        refine PT_b ?_ ?_
        · refine PA_m w4.heap.size rfl rfl (ev_makeN Try.underlying27 el69 rfl rfl rfl (by omega) (by omega)) ?_
          rintro _ w19 ⟨rfl, hN19⟩
          have hz19 := hN19.size
          replace hE := hE.trans hN19.ext
          replace hT := hT.trans hN19.ext
          replace hDd1 := hDd1.trans hN19.ext
          replace hA := hA.ext hN19.ext
          replace hB2 := hB2.ext hN19.ext
          replace hB4 := hB4.ext hN19.ext
          replace hO22 := hO22.ext hN19.ext
          replace hB5 := hB5.ext hN19.ext
          have hB19 := hN19.blk
          refine ⟨by omega, fun _ hx => ⟨hDd1.lo hx (by omega), trivial⟩, ?_⟩
          have hDd1 := (Lo.refl (by omega) : Lo w4.heap.size w19 w19)
          refine PT_a ?_
          refine PA_m w4.heap.size rfl rfl (ev_call rfl (l1Own_own _ _ A.inputs _ hA.inputs (by omega) (by omega))) ?_
          rintro _ w25 ⟨a25, c25, rfl, hO25, hE25⟩
          have hz25 := hE25.size
          replace hE := hE.trans hE25
          replace hT := hT.trans hE25
          replace hDd1 := hDd1.trans hE25
          replace hA := hA.ext hE25
          replace hB2 := hB2.ext hE25
          replace hB4 := hB4.ext hE25
          replace hO22 := hO22.ext hE25
          replace hB5 := hB5.ext hE25
          replace hB19 := hB19.ext hE25
          replace hO25 := hO25.h
          refine ⟨by omega, fun _ hx => ⟨hDd1.lo hx (by omega), trivial⟩, ?_⟩
          have hDd1 := (Lo.refl (by omega) : Lo w4.heap.size w25 w25)
          refine PT_q rfl rfl (fun wq hq => ev_build3 sn29_3 rfl rfl rfl rfl rfl rfl) ?_
          refine PT_a ?_
          refine PA_s w4.heap.size rfl (ev_stores sz29 rfl rfl rfl (by simp [Value.oneCell']) hB5 (by simp)) ?_
          rintro _ w1_12 hS1_12
          have hz1_12 := hS1_12.size
          replace hE := hE.sto hS1_12 (by omega)
          replace hT := hT.sto hS1_12 (by omega)
          replace hDd1 := hDd1.sto hS1_12 (by omega)
          replace hA := hA.sto hS1_12 (by omega)
          replace hB2 := hB2.sto hS1_12 (by omega)
          replace hB4 := hB4.sto hS1_12 (by omega)
          replace hO22 := hO22.sto hS1_12 (by omega)
          replace hB19 := hB19.sto hS1_12 (by omega)
          replace hO25 := hO25.sto hS1_12 (by omega)
          replace hB5 : Blk w1_12 _ _ [_, _, _] := hS1_12.blk
          refine ⟨by omega, fun _ hx => ⟨hDd1.lo hx (by omega), trivial⟩, ?_⟩
          have hDd1 := (Lo.refl (by omega) : Lo w4.heap.size w1_12 w1_12)
          exact PT_nil 12 ⟨hB5.num, hB19.num, w22.heap.size, a22, c22, a25, c25⟩ rfl ⟨rfl, trivial⟩ rfl ⟨⟨by (try dsimp only [Blk.num]); omega, by (try dsimp only [Blk.num]); omega, by (try dsimp only [Blk.num]); omega, by (try dsimp only [Blk.num]); omega, by (try dsimp only [Blk.num]); omega, by (try dsimp only [Blk.num]); omega, by (try dsimp only [Blk.num]); omega⟩, hB5, hB19, hO22.off (by (try dsimp only [Blk.num]); omega) (by (try dsimp only [Blk.num]); omega) (by (try dsimp only [Blk.num]); omega), hO25.off (by (try dsimp only [Blk.num]); omega) (by (try dsimp only [Blk.num]); omega) (by (try dsimp only [Blk.num]); omega), hT⟩
        · refine PA_m w4.heap.size rfl rfl (ev_call rfl (l1Own_own _ _ A.inputs _ hA.inputs (by omega) (by omega))) ?_
          rintro _ w25 ⟨a25, c25, rfl, hO25, hE25⟩
          have hz25 := hE25.size
          replace hE := hE.trans hE25
          replace hT := hT.trans hE25
          replace hDd1 := hDd1.trans hE25
          replace hA := hA.ext hE25
          replace hB2 := hB2.ext hE25
          replace hB4 := hB4.ext hE25
          replace hO22 := hO22.ext hE25
          replace hB5 := hB5.ext hE25
          replace hO25 := hO25.h
          refine ⟨by omega, fun _ hx => ⟨hDd1.lo hx (by omega), trivial⟩, ?_⟩
          have hDd1 := (Lo.refl (by omega) : Lo w4.heap.size w25 w25)
          refine PT_a ?_
          refine PA_m w4.heap.size rfl rfl (ev_makeN Try.underlying27 el69 rfl rfl rfl (by omega) (by omega)) ?_
          rintro _ w19 ⟨rfl, hN19⟩
          have hz19 := hN19.size
          replace hE := hE.trans hN19.ext
          replace hT := hT.trans hN19.ext
          replace hDd1 := hDd1.trans hN19.ext
          replace hA := hA.ext hN19.ext
          replace hB2 := hB2.ext hN19.ext
          replace hB4 := hB4.ext hN19.ext
          replace hO22 := hO22.ext hN19.ext
          replace hB5 := hB5.ext hN19.ext
          replace hO25 := hO25.ext hN19.ext
          have hB19 := hN19.blk
          refine ⟨by omega, fun _ hx => ⟨hDd1.lo hx (by omega), trivial⟩, ?_⟩
          have hDd1 := (Lo.refl (by omega) : Lo w4.heap.size w19 w19)
          refine PT_q rfl rfl (fun wq hq => ev_build3 sn29_3 rfl rfl rfl rfl rfl rfl) ?_
          refine PT_a ?_
          refine PA_s w4.heap.size rfl (ev_stores sz29 rfl rfl rfl (by simp [Value.oneCell']) hB5 (by simp)) ?_
          rintro _ w1_12 hS1_12
          have hz1_12 := hS1_12.size
          replace hE := hE.sto hS1_12 (by omega)
          replace hT := hT.sto hS1_12 (by omega)
          replace hDd1 := hDd1.sto hS1_12 (by omega)
          replace hA := hA.sto hS1_12 (by omega)
          replace hB2 := hB2.sto hS1_12 (by omega)
          replace hB4 := hB4.sto hS1_12 (by omega)
          replace hO22 := hO22.sto hS1_12 (by omega)
          replace hO25 := hO25.sto hS1_12 (by omega)
          replace hB19 := hB19.sto hS1_12 (by omega)
          replace hB5 : Blk w1_12 _ _ [_, _, _] := hS1_12.blk
          refine ⟨by omega, fun _ hx => ⟨hDd1.lo hx (by omega), trivial⟩, ?_⟩
          have hDd1 := (Lo.refl (by omega) : Lo w4.heap.size w1_12 w1_12)
          exact PT_nil 12 ⟨hB5.num, hB19.num, w22.heap.size, a22, c22, a25, c25⟩ rfl ⟨rfl, trivial⟩ rfl ⟨⟨by (try dsimp only [Blk.num]); omega, by (try dsimp only [Blk.num]); omega, by (try dsimp only [Blk.num]); omega, by (try dsimp only [Blk.num]); omega, by (try dsimp only [Blk.num]); omega, by (try dsimp only [Blk.num]); omega, by (try dsimp only [Blk.num]); omega⟩, hB5, hB19, hO22.off (by (try dsimp only [Blk.num]); omega) (by (try dsimp only [Blk.num]); omega) (by (try dsimp only [Blk.num]); omega), hO25.off (by (try dsimp only [Blk.num]); omega) (by (try dsimp only [Blk.num]); omega) (by (try dsimp only [Blk.num]); omega), hT⟩
    · refine PA_m w4.heap.size rfl rfl (ev_alloc zr29) ?_
      rintro _ w5 ⟨rfl, hN5⟩
      have hz5 := hN5.size
      replace hE := hE.trans hN5.ext
      replace hT := hT.trans hN5.ext
      replace hDd1 := hDd1.trans hN5.ext
      replace hA := hA.ext hN5.ext
      replace hB2 := hB2.ext hN5.ext
      replace hB4 := hB4.ext hN5.ext
      have hB5 : Blk w5 _ _ [_, _, _] := hN5.blk
      refine ⟨by omega, fun _ hx => ⟨hDd1.lo hx (by omega), trivial⟩, ?_⟩
      have hDd1 := (Lo.refl (by omega) : Lo w4.heap.size w5 w5)
      refine PT_b ?_ ?_
      · refine PA_m w4.heap.size rfl rfl (ev_makeN Try.underlying27 el69 rfl rfl rfl (by omega) (by omega)) ?_
        rintro _ w19 ⟨rfl, hN19⟩
        have hz19 := hN19.size
        replace hE := hE.trans hN19.ext
        replace hT := hT.trans hN19.ext
        replace hDd1 := hDd1.trans hN19.ext
        replace hA := hA.ext hN19.ext
        replace hB2 := hB2.ext hN19.ext
        replace hB4 := hB4.ext hN19.ext
        replace hB5 := hB5.ext hN19.ext
        have hB19 := hN19.blk
        refine ⟨by omega, fun _ hx => ⟨hDd1.lo hx (by omega), trivial⟩, ?_⟩
        have hDd1 := (Lo.refl (by omega) : Lo w4.heap.size w19 w19)
        refine PT_a ?_
        refine PA_m w4.heap.size rfl rfl (ev_call rfl (l1Own_own _ _ A.ids _ hA.ids (by omega) (by omega))) ?_
        rintro _ w22 ⟨a22, c22, rfl, hO22, hE22⟩
        have hz22 := hE22.size
        replace hE := hE.trans hE22
        replace hT := hT.trans hE22
        replace hDd1 := hDd1.trans hE22
        replace hA := hA.ext hE22
        replace hB2 := hB2.ext hE22
        replace hB4 := hB4.ext hE22
        replace hB5 := hB5.ext hE22
        replace hB19 := hB19.ext hE22
        replace hO22 := hO22.h
        refine ⟨by omega, fun _ hx => ⟨hDd1.lo hx (by omega), trivial⟩, ?_⟩
        have hDd1 := (Lo.refl (by omega) : Lo w4.heap.size w22 w22)
        refine PT_a ?_
        refine PA_m w4.heap.size rfl rfl (ev_call rfl (l1Own_own _ _ A.inputs _ hA.inputs (by omega) (by omega))) ?_
        rintro _ w25 ⟨a25, c25, rfl, hO25, hE25⟩
        have hz25 := hE25.size
        replace hE := hE.trans hE25
        replace hT := hT.trans hE25
        replace hDd1 := hDd1.trans hE25
        replace hA := hA.ext hE25
        replace hB2 := hB2.ext hE25
        replace hB4 := hB4.ext hE25
        replace hB5 := hB5.ext hE25
        replace hB19 := hB19.ext hE25
        replace hO22 := hO22.ext hE25
        replace hO25 := hO25.h
        refine ⟨by omega, fun _ hx => ⟨hDd1.lo hx (by omega), trivial⟩, ?_⟩
        have hDd1 := (Lo.refl (by omega) : Lo w4.heap.size w25 w25)
        refine PT_q rfl rfl (fun wq hq => ev_build3 sn29_3 rfl rfl rfl rfl rfl rfl) ?_
        refine PT_a ?_
        refine PA_s w4.heap.size rfl (ev_stores sz29 rfl rfl rfl (by simp [Value.oneCell']) hB5 (by simp)) ?_
        rintro _ w1_12 hS1_12
        have hz1_12 := hS1_12.size
        replace hE := hE.sto hS1_12 (by omega)
        replace hT := hT.sto hS1_12 (by omega)
        replace hDd1 := hDd1.sto hS1_12 (by omega)
        replace hA := hA.sto hS1_12 (by omega)
        replace hB2 := hB2.sto hS1_12 (by omega)
        replace hB4 := hB4.sto hS1_12 (by omega)
        replace hB19 := hB19.sto hS1_12 (by omega)
        replace hO22 := hO22.sto hS1_12 (by omega)
        replace hO25 := hO25.sto hS1_12 (by omega)
        replace hB5 : Blk w1_12 _ _ [_, _, _] := hS1_12.blk
        refine ⟨by omega, fun _ hx => ⟨hDd1.lo hx (by omega), trivial⟩, ?_⟩
        have hDd1 := (Lo.refl (by omega) : Lo w4.heap.size w1_12 w1_12)
        exact PT_nil 12 ⟨hB5.num, hB19.num, w22.heap.size, a22, c22, a25, c25⟩ rfl ⟨rfl, trivial⟩ rfl ⟨⟨by (try dsimp only [Blk.num]); omega, by (try dsimp only [Blk.num]); omega, by (try dsimp only [Blk.num]); omega, by (try dsimp only [Blk.num]); omega, by (try dsimp only [Blk.num]); omega, by (try dsimp only [Blk.num]); omega, by (try dsimp only [Blk.num]); omega⟩, hB5, hB19, hO22.off (by (try dsimp only [Blk.num]); omega) (by (try dsimp only [Blk.num]); omega) (by (try dsimp only [Blk.num]); omega), hO25.off (by (try dsimp only [Blk.num]); omega) (by (try dsimp only [Blk.num]); omega) (by (try dsimp only [Blk.num]); omega), hT⟩
      · refine PA_m w4.heap.size rfl rfl (ev_call rfl (l1Own_own _ _ A.ids _ hA.ids (by omega) (by omega))) ?_
        rintro _ w22 ⟨a22, c22, rfl, hO22, hE22⟩
        have hz22 := hE22.size
        replace hE := hE.trans hE22
        replace hT := hT.trans hE22
        replace hDd1 := hDd1.trans hE22
        replace hA := hA.ext hE22
        replace hB2 := hB2.ext hE22
        replace hB4 := hB4.ext hE22
        replace hB5 := hB5.ext hE22
        replace hO22 := hO22.h
        refine ⟨by omega, fun _ hx => ⟨hDd1.lo hx (by omega), trivial⟩, ?_⟩
        have hDd1 := (Lo.refl (by omega) : Lo w4.heap.size w22 w22)
        refine PT_b ?_ ?_
        · refine PA_m w4.heap.size rfl rfl (ev_makeN Try.underlying27 el69 rfl rfl rfl (by omega) (by omega)) ?_
          rintro _ w19 ⟨rfl, hN19⟩
          have hz19 := hN19.size
          replace hE := hE.trans hN19.ext
          replace hT := hT.trans hN19.ext
          replace hDd1 := hDd1.trans hN19.ext
          replace hA := hA.ext hN19.ext
          replace hB2 := hB2.ext hN19.ext
          replace hB4 := hB4.ext hN19.ext
          replace hB5 := hB5.ext hN19.ext
          replace hO22 := hO22.ext hN19.ext
          have hB19 := hN19.blk
          refine ⟨by omega, fun _ hx => ⟨hDd1.lo hx (by omega), trivial⟩, ?_⟩
          have hDd1 := (Lo.refl (by omega) : Lo w4.heap.size w19 w19)
          refine PT_a ?_
          refine PA_m w4.heap.size rfl rfl (ev_call rfl (l1Own_own _ _ A.inputs _ hA.inputs (by omega) (by omega))) ?_
          rintro _ w25 ⟨a25, c25, rfl, hO25, hE25⟩
          have hz25 := hE25.size
          replace hE := hE.trans hE25
          replace hT := hT.trans hE25
          replace hDd1 := hDd1.trans hE25
          replace hA := hA.ext hE25
          replace hB2 := hB2.ext hE25
          replace hB4 := hB4.ext hE25
          replace hB5 := hB5.ext hE25
          replace hO22 := hO22.ext hE25
          replace hB19 := hB19.ext hE25
          replace hO25 := hO25.h
          refine ⟨by omega, fun _ hx => ⟨hDd1.lo hx (by omega), trivial⟩, ?_⟩
          have hDd1 := (Lo.refl (by omega) : Lo w4.heap.size w25 w25)
          refine PT_q rfl rfl (fun wq hq => ev_build3 sn29_3 rfl rfl rfl rfl rfl rfl) ?_
          refine PT_a ?_
          refine PA_s w4.heap.size rfl (ev_stores sz29 rfl rfl rfl (by simp [Value.oneCell']) hB5 (by simp)) ?_
          rintro _ w1_12 hS1_12
          have hz1_12 := hS1_12.size
          replace hE := hE.sto hS1_12 (by omega)
          replace hT := hT.sto hS1_12 (by omega)
          replace hDd1 := hDd1.sto hS1_12 (by omega)
          replace hA := hA.sto hS1_12 (by omega)
          replace hB2 := hB2.sto hS1_12 (by omega)
          replace hB4 := hB4.sto hS1_12 (by omega)
          replace hO22 := hO22.sto hS1_12 (by omega)
          replace hB19 := hB19.sto hS1_12 (by omega)
          replace hO25 := hO25.sto hS1_12 (by omega)
          replace hB5 : Blk w1_12 _ _ [_, _, _] := hS1_12.blk
          refine ⟨by omega, fun _ hx => ⟨hDd1.lo hx (by omega), trivial⟩, ?_⟩
          have hDd1 := (Lo.refl (by omega) : Lo w4.heap.size w1_12 w1_12)
          exact PT_nil 12 ⟨hB5.num, hB19.num, w22.heap.size, a22, c22, a25, c25⟩ rfl ⟨rfl, trivial⟩ rfl ⟨⟨by (try dsimp only [Blk.num]); omega, by (try dsimp only [Blk.num]); omega, by (try dsimp only [Blk.num]); omega, by (try dsimp only [Blk.num]); omega, by (try dsimp only [Blk.num]); omega, by (try dsimp only [Blk.num]); omega, by (try dsimp only [Blk.num]); omega⟩, hB5, hB19, hO22.off (by (try dsimp only [Blk.num]); omega) (by (try dsimp only [Blk.num]); omega) (by (try dsimp only [Blk.num]); omega), hO25.off (by (try dsimp only [Blk.num]); omega) (by (try dsimp only [Blk.num]); omega) (by (try dsimp only [Blk.num]); omega), hT⟩
        · refine PA_m w4.heap.size rfl rfl (ev_call rfl (l1Own_own _ _ A.inputs _ hA.inputs (by omega) (by omega))) ?_
          rintro _ w25 ⟨a25, c25, rfl, hO25, hE25⟩
          have hz25 := hE25.size
          replace hE := hE.trans hE25
          replace hT := hT.trans hE25
          replace hDd1 := hDd1.trans hE25
          replace hA := hA.ext hE25
          replace hB2 := hB2.ext hE25
          replace hB4 := hB4.ext hE25
          replace hB5 := hB5.ext hE25
          replace hO22 := hO22.ext hE25
          replace hO25 := hO25.h
          refine ⟨by omega, fun _ hx => ⟨hDd1.lo hx (by omega), trivial⟩, ?_⟩
          have hDd1 := (Lo.refl (by omega) : Lo w4.heap.size w25 w25)
          refine PT_a ?_
          refine PA_m w4.heap.size rfl rfl (ev_makeN Try.underlying27 el69 rfl rfl rfl (by omega) (by omega)) ?_
          rintro _ w19 ⟨rfl, hN19⟩
          have hz19 := hN19.size
          replace hE := hE.trans hN19.ext
          replace hT := hT.trans hN19.ext
          replace hDd1 := hDd1.trans hN19.ext
          replace hA := hA.ext hN19.ext
          replace hB2 := hB2.ext hN19.ext
          replace hB4 := hB4.ext hN19.ext
          replace hB5 := hB5.ext hN19.ext
          replace hO22 := hO22.ext hN19.ext
          replace hO25 := hO25.ext hN19.ext
          have hB19 := hN19.blk
          refine ⟨by omega, fun _ hx => ⟨hDd1.lo hx (by omega), trivial⟩, ?_⟩
          have hDd1 := (Lo.refl (by omega) : Lo w4.heap.size w19 w19)
          refine PT_q rfl rfl (fun wq hq => ev_build3 sn29_3 rfl rfl rfl rfl rfl rfl) ?_
          refine PT_a ?_
          refine PA_s w4.heap.size rfl (ev_stores sz29 rfl rfl rfl (by simp [Value.oneCell']) hB5 (by simp)) ?_
          rintro _ w1_12 hS1_12
          have hz1_12 := hS1_12.size
          replace hE := hE.sto hS1_12 (by omega)
          replace hT := hT.sto hS1_12 (by omega)
          replace hDd1 := hDd1.sto hS1_12 (by omega)
          replace hA := hA.sto hS1_12 (by omega)
          replace hB2 := hB2.sto hS1_12 (by omega)
          replace hB4 := hB4.sto hS1_12 (by omega)
          replace hO22 := hO22.sto hS1_12 (by omega)
          replace hO25 := hO25.sto hS1_12 (by omega)
          replace hB19 := hB19.sto hS1_12 (by omega)
          replace hB5 : Blk w1_12 _ _ [_, _, _] := hS1_12.blk
          refine ⟨by omega, fun _ hx => ⟨hDd1.lo hx (by omega), trivial⟩, ?_⟩
          have hDd1 := (Lo.refl (by omega) : Lo w4.heap.size w1_12 w1_12)
          exact PT_nil 12 ⟨hB5.num, hB19.num, w22.heap.size, a22, c22, a25, c25⟩ rfl ⟨rfl, trivial⟩ rfl ⟨⟨by (try dsimp only [Blk.num]); omega, by (try dsimp only [Blk.num]); omega, by (try dsimp only [Blk.num]); omega, by (try dsimp only [Blk.num]); omega, by (try dsimp only [Blk.num]); omega, by (try dsimp only [Blk.num]); omega, by (try dsimp only [Blk.num]); omega⟩, hB5, hB19, hO22.off (by (try dsimp only [Blk.num]); omega) (by (try dsimp only [Blk.num]); omega) (by (try dsimp only [Blk.num]); omega), hO25.off (by (try dsimp only [Blk.num]); omega) (by (try dsimp only [Blk.num]); omega) (by (try dsimp only [Blk.num]); omega), hT⟩
  rintro ⟨b5, b19, m9, a22, c22, a25, c25⟩ wt1 ⟨⟨hb1, hb2, hb3, hb4, hb5, hb6, hb7⟩, hB5, hB19, hO22, hO25, hT⟩
  dsimp only [List.cons_append, List.nil_append]
  dsimp only at hb1 hb2 hb3 hb4 hb5 hb6 hb7 hB5 hB19 hO22 hO25
  replace hE := hE.trans hT
  replace hA := hA.ext hT
  replace hB2 := hB2.ext hT
  replace hB4 := hB4.ext hT
  refine thenE_n ?_
  refine W_seq ?_
  refine W_region ?_
  refine WL_q rfl (ev_assign rfl) ?_
  refine WL_nil ?_
  refine thenE_n ?_
  refine W_seq ?_
  refine W_seq ?_
  refine W_region ?_
  refine WL_q rfl (ev_fieldAddr fo29_0 rfl) ?_
  refine WL_q rfl (ev_load one27 rfl (hB2.cell rfl)) ?_
  refine WL_q rfl (ev_len Try.underlying27 rfl) ?_
  refine WL_q rfl (ev_move rfl) ?_
  refine WL_nil ?_
  refine thenE_n ?_
  refine W_block ?_
  refine W_loopC (G := Nat × Option Addr × Nat) [(1, _), (2, _), (4, _), (5, _), (29, _)] ((Subs.c rfl (Subs.c rfl (Subs.c rfl (Subs.c rfl (Subs.c rfl Subs.n)))))) (fun ⟨i, a, c⟩ => [(6, .slice a ((nearA A r).take i).length c), (30, VI (i : Int))]) (fun ⟨i, a, c⟩ w' => Lo (wt1.heap.size) wt1 w' ∧ i ≤ A.ends.length ∧ RowsF wt1.heap.size w'.heap.size w' 3 23 a c ((nearA A r).take i)) (fun g => A.ends.length - g.1) (0, none, 0) ((Subs.c rfl (Subs.c (lkI rfl (by omega)) Subs.n))) (⟨Lo.refl (by omega), ⟨Nat.zero_le _, RowsF.nil⟩⟩) ?_
  rintro ⟨i, a, c⟩ wL0 ⟨hRL0, hi', hR⟩
  have hzL0 := hRL0.size
  replace hA := hA.lo hRL0 (by omega)
  replace hB2 := hB2.lo hRL0 (by omega)
  replace hB4 := hB4.lo hRL0 (by omega)
  replace hB5 := hB5.lo hRL0 (by omega)
  replace hB19 := hB19.lo hRL0 (by omega)
  replace hO22 := hO22.lo hRL0 (by omega)
  replace hO25 := hO25.lo hRL0 (by omega)
  replace hE := hE.lo hRL0 (by omega)
  have hnl9 := nearA_len A r
  have htk : ((nearA A r).take i).length = i := by rw [List.length_take]; omega
  refine W_seq ?_
  refine W_region ?_
  refine WL_q rfl (ev_lss rfl rfl) ?_
  refine WL_nil ?_
  refine thenE_n ?_
  refine W_seq ?_
  refine W_cond rfl (fun hg31 => ?_) (fun hg31 => ?_)
  · have hp31 := of_decide_eq_true hg31
    refine W_skip ?_
    refine thenE_n ?_
    refine W_seq ?_
    refine W_block ?_
    refine W_seq ?_
    refine W_region ?_
    refine WL_q rfl (ev_move rfl) ?_
    refine WL_q rfl (ev_assign rfl) ?_
    refine WL_nil ?_
    refine thenE_n ?_
    refine W_seq ?_
    refine W_region ?_
    refine WL_q rfl (ev_assign rfl) ?_
    refine WL_nil ?_
    refine thenE_n ?_
    refine W_seq ?_
    refine W_seq ?_
    refine W_region ?_
    refine WL_q rfl (ev_loads st29 sz29 rfl (cellsB hB2) rfl) ?_
    refine WL_q rfl (ev_move rfl) ?_
    have hilt : i < A.ends.length := by omega
    have hl0 := bfs_len hk (v := (i : Int)) (by omega) (by omega)
    refine WL_m rfl (ev_call rfl (meFrom_spec _ A _ _ hA (by omega) (by omega) (by assumption) (by omega))) ?_
    rintro _ w35 ⟨a35, c35, rfl, hO35, hE35⟩
    have hz35 := hE35.size
    replace hE := hE.trans hE35
    replace hRL0 := hRL0.trans hE35
    replace hA := hA.ext hE35
    replace hB2 := hB2.ext hE35
    replace hB4 := hB4.ext hE35
    replace hB5 := hB5.ext hE35
    replace hB19 := hB19.ext hE35
    replace hO22 := hO22.ext hE35
    replace hO25 := hO25.ext hE35
    replace hR := hR.ext hE35
    have hI35 := own_i hO35
    refine WL_q rfl (ev_len Try.underlying23 rfl) ?_
    refine WL_q rfl (ev_move rfl) ?_
    refine WL_nil ?_
    refine thenE_n ?_
    refine W_block ?_
    refine W_loopC (G := Nat × Option Addr × Nat) [(1, _), (2, _), (4, _), (5, _), (6, _), (29, _), (30, _), (35, _), (36, _)] ((Subs.c rfl (Subs.c rfl (Subs.c rfl (Subs.c rfl (Subs.c rfl (Subs.c rfl (Subs.c rfl (Subs.c rfl (Subs.c rfl Subs.n)))))))))) (fun ⟨k, a2, c2⟩ => [(8, .slice a2 (ballN (bfs A.ends (i : Int)) 1 r k).length c2), (37, VI (k : Int))]) (fun ⟨k, a2, c2⟩ w' => Ext w35 w' ∧ k ≤ A.ends.length ∧ OwnH w35.heap.size w'.heap.size 0 0 w' 3 1 a2 (ballN (bfs A.ends (i : Int)) 1 r k).length c2 ((ballN (bfs A.ends (i : Int)) 1 r k).map VI)) (fun g => A.ends.length - g.1) (0, none, 0) ((Subs.c rfl (Subs.c (lkI rfl (by omega)) Subs.n))) (⟨Ext.refl _, ⟨Nat.zero_le _, OwnH.nil⟩⟩) ?_
    rintro ⟨k, a2, c2⟩ wL2 ⟨hRL2, hk', hO⟩
    have hzL2 := hRL2.size
    replace hE := hE.trans hRL2
    replace hRL0 := hRL0.trans hRL2
    replace hA := hA.ext hRL2
    replace hB2 := hB2.ext hRL2
    replace hB4 := hB4.ext hRL2
    replace hB5 := hB5.ext hRL2
    replace hB19 := hB19.ext hRL2
    replace hO22 := hO22.ext hRL2
    replace hO25 := hO25.ext hRL2
    replace hR := hR.ext hRL2
    replace hI35 := hI35.ext hRL2
    have hbn := ballN_len (bfs A.ends (i : Int)) 1 r k
    refine W_seq ?_
    refine W_region ?_
    refine WL_q rfl (ev_lss rfl rfl) ?_
    refine WL_nil ?_
    refine thenE_n ?_
    refine W_seq ?_
    refine W_cond rfl (fun hg38 => ?_) (fun hg38 => ?_)
    · have hp38 := of_decide_eq_true hg38
      refine W_skip ?_
      refine thenE_n ?_
      refine W_seq ?_
      refine W_block ?_
      refine W_seq ?_
      refine W_region ?_
      refine WL_q rfl (ev_move rfl) ?_
      refine WL_q rfl (ev_indexAddr Try.underlying23 sz3 rfl rfl (hI35.isSome (by omega)) (by omega) (by omega)) ?_
      refine WL_q rfl (ev_load one3 rfl (hI35.cell (i := k) (by omega))) ?_
      refine WL_q rfl (ev_assign rfl) ?_
      refine WL_q rfl (ev_assign rfl) ?_
      refine WL_nil ?_
      refine thenE_n ?_
      refine W_seq ?_
      refine W_region ?_
      refine WL_q rfl (ev_move rfl) ?_
      refine WL_q rfl (ev_move rfl) ?_
      refine WL_m rfl (ev_call rfl (l1In_spec _ _ _ _)) ?_
      rintro _ _ ⟨rfl, rfl⟩
      refine WL_nil ?_
      refine thenE_n ?_
      refine W_cond rfl (fun hg44 => ?_) (fun hg44 => ?_)
      · have hp44 := inR_true.1 hg44
        refine W_region ?_
        refine WL_q rfl (ev_move rfl) ?_
        refine WL_q rfl (ev_move rfl) ?_
        refine WL_m rfl (ev_lit1 Try.underlying23 el3 (by decide) (by decide) rfl rfl) ?_
        rintro _ w47 ⟨rfl, hN47⟩
        have hz47 := hN47.size
        replace hE := hE.trans hN47.ext
        replace hRL0 := hRL0.trans hN47.ext
        replace hRL2 := hRL2.trans hN47.ext
        replace hA := hA.ext hN47.ext
        replace hB2 := hB2.ext hN47.ext
        replace hB4 := hB4.ext hN47.ext
        replace hB5 := hB5.ext hN47.ext
        replace hB19 := hB19.ext hN47.ext
        replace hO22 := hO22.ext hN47.ext
        replace hO25 := hO25.ext hN47.ext
        replace hR := hR.ext hN47.ext
        replace hI35 := hI35.ext hN47.ext
        replace hO := hO.ext hN47.ext
        have hB47 := hN47.blk
        refine WL_m rfl (ev_appendT Try.underlying23 el3 rfl (by decide) rfl rfl hO (SAt.of_blk (cs := [_]) (ds := []) hB47) rfl (by simp [Value.oneCell']) (by omega) (by unfold maxLen; omega) (by omega)) ?_
        rintro _ w48 ⟨a48, c48, rfl, hO48, hK48, hQ48⟩
        have hz48 := hK48.size
        replace hE := hE.rg hK48 (by omega)
        replace hRL0 := hRL0.rg hK48 (by omega)
        replace hRL2 := hRL2.rg hK48 (by omega)
        replace hA := hA.rg hK48 (by omega)
        replace hB2 := hB2.rg hK48 (by omega)
        replace hB4 := hB4.rg hK48 (by omega)
        replace hB5 := hB5.rg hK48 (by omega)
        replace hB19 := hB19.rg hK48 (by omega)
        replace hO22 := hO22.rg hK48 (by omega)
        replace hO25 := hO25.rg hK48 (by omega)
        replace hR := hR.rg hK48 (by omega)
        replace hI35 := hI35.rg hK48 (by omega)
        replace hB47 := hB47.rg hK48 (by omega)
        replace hO := hO48
        replace hO := ownt_snocI hO
        refine WL_q rfl (ev_assign rfl) ?_
        refine WL_nil ?_
        refine blockE_n ?_
        refine thenE_n ?_
        refine W_region ?_
        refine WL_q rfl (ev_add rfl rfl (by omega)) ?_
        refine WL_q rfl (ev_move rfl) ?_
        refine WL_nil ?_
        refine thenE_n ?_
        have hyes := ballN_yes (b := 1) (r := r) (show k < (bfs A.ends (i : Int)).length by omega) hg44
        exact ⟨(k + 1, a48, c48), (Subs.c rfl (Subs.c rfl (Subs.c rfl (Subs.c rfl (Subs.c rfl (Subs.c rfl (Subs.c rfl (Subs.c rfl (Subs.c rfl Subs.n))))))))), (Subs.c (lkS rfl (by rw [← hyes]; simp)) (Subs.c (lkI rfl (by omega)) Subs.n)), ⟨hRL2, ⟨by omega, (ownt_to hO hyes (by rw [← hyes]; simp)).up (Nat.le_refl _) (by omega)⟩⟩, by first | omega | (dsimp only; omega)⟩
      · have hp44 := inR_false.1 hg44
        refine W_skip ?_
        refine blockE_n ?_
        refine thenE_n ?_
        refine W_region ?_
        refine WL_q rfl (ev_add rfl rfl (by omega)) ?_
        refine WL_q rfl (ev_move rfl) ?_
        refine WL_nil ?_
        refine thenE_n ?_
        have hno := ballN_no (b := 1) (r := r) (show k < (bfs A.ends (i : Int)).length by omega) hg44
        exact ⟨(k + 1, a2, c2), (Subs.c rfl (Subs.c rfl (Subs.c rfl (Subs.c rfl (Subs.c rfl (Subs.c rfl (Subs.c rfl (Subs.c rfl (Subs.c rfl Subs.n))))))))), (Subs.c (lkS rfl (by rw [← hno])) (Subs.c (lkI rfl (by omega)) Subs.n)), ⟨hRL2, ⟨by omega, (ownt_to hO hno (by rw [← hno])).up (Nat.le_refl _) (by omega)⟩⟩, by first | omega | (dsimp only; omega)⟩
    · have hp38 := of_decide_eq_false hg38
      refine W_exit ?_
      refine thenE_x ?_
      refine thenE_x ?_
      refine blockE_hit ?_
      refine thenE_n ?_
      refine W_region ?_
      refine WL_q rfl (ev_move rfl) ?_
      refine WL_q rfl (ev_move rfl) ?_
      refine WL_m rfl (ev_lit1 Try.underlying43 el23 (by decide) (by decide) rfl rfl) ?_
      rintro _ w52 ⟨rfl, hN52⟩
      have hz52 := hN52.size
      replace hE := hE.trans hN52.ext
      replace hRL0 := hRL0.trans hN52.ext
      replace hA := hA.ext hN52.ext
      replace hB2 := hB2.ext hN52.ext
      replace hB4 := hB4.ext hN52.ext
      replace hB5 := hB5.ext hN52.ext
      replace hB19 := hB19.ext hN52.ext
      replace hO22 := hO22.ext hN52.ext
      replace hO25 := hO25.ext hN52.ext
      replace hR := hR.ext hN52.ext
      replace hI35 := hI35.ext hN52.ext
      replace hO := hO.ext hN52.ext
      have hB52 := hN52.blk
      obtain ⟨vs53, hA53⟩ := hR
      have hP53 := hA53.out
      refine WL_m rfl (ev_append Try.underlying43 el23 rfl (by decide) rfl rfl hP53 (SAt.of_blk (cs := [_]) (ds := []) hB52) rfl (by simp [Value.oneCell']) (by omega) (by unfold maxLen; omega) (by omega)) ?_
      rintro _ w53 ⟨a53, c53, rfl, hO53, hK53, hQ53⟩
      have hz53 := hK53.size
      replace hE := hE.app hK53 (fun q hq => by have h1 := (hP53.block q hq).1; have h2 := hA53.otop q hq; omega)
      replace hRL0 := hRL0.app hK53 (fun q hq => by have h1 := (hP53.block q hq).1; have h2 := hA53.otop q hq; omega)
      replace hA := hA.app hK53 (hP53) (by omega)
      replace hB2 := hB2.app hK53 (hP53) (by omega)
      replace hB4 := hB4.app hK53 (hP53) (by omega)
      replace hB5 := hB5.app hK53 (hP53) (by omega)
      replace hB19 := hB19.app hK53 (hP53) (by omega)
      replace hO22 := hO22.app hK53 (hP53) (by omega)
      replace hO25 := hO25.app hK53 (hP53) (by omega)
      have hP53 := hO53
      have hR := rowsf_snoc hA53 hO.1 (by omega) (by omega) hK53 hP53 rfl hQ53 (by omega)
      refine WL_q rfl (ev_assign rfl) ?_
      refine WL_nil ?_
      refine blockE_n ?_
      refine thenE_n ?_
      refine W_region ?_
      refine WL_q rfl (ev_add rfl rfl (by omega)) ?_
      refine WL_q rfl (ev_move rfl) ?_
      refine WL_nil ?_
      refine thenE_n ?_
      have hk9 : k = A.ends.length := by omega
      have hne := nearA_take (A := A) (r := r) (i := i) (xs := (ballN (bfs A.ends (i : Int)) 1 r k)) (by omega) (by rw [hk9]; rfl)
      exact ⟨(i + 1, a53, c53), (Subs.c rfl (Subs.c rfl (Subs.c rfl (Subs.c rfl (Subs.c rfl Subs.n))))), (Subs.c (lkS rfl (by rw [← hne]; simp)) (Subs.c (lkI rfl (by omega)) Subs.n)), ⟨hRL0, ⟨by omega, hR.to hne⟩⟩, by first | omega | (dsimp only; omega)⟩
  · have hp31 := of_decide_eq_false hg31
    refine W_exit ?_
    refine thenE_x ?_
    refine thenE_x ?_
    refine blockE_hit ?_
    refine thenE_n ?_
    refine W_seq ?_
    refine W_seq ?_
    refine W_region ?_
    have hi9 : i = A.ends.length := by omega
    subst hi9
    have e9 : (nearA A r).take A.ends.length = nearA A r := List.take_of_length_le (by omega)
    rw [e9] at hR
    have hI9 := hR.is
    have hR0 : NR pairF 2 wt1.heap.size wL0.heap.size wL0 71 69 b19 0 0 0 (mixF (powR A r) (List.replicate A.ends.length []) 0) := by rw [mixF_zero]; exact NR.made hB19 (by omega)
    refine WL_q rfl (ev_move rfl) ?_
    refine WL_q rfl (ev_len Try.underlying43 rfl) ?_
    refine WL_q rfl (ev_move rfl) ?_
    refine WL_nil ?_
    refine thenE_n ?_
    refine W_block ?_
    refine W_loopC (G := Nat) [(4, _), (5, _), (6, _), (55, _), (56, _)] ((Subs.c rfl (Subs.c rfl (Subs.c rfl (Subs.c rfl (Subs.c rfl Subs.n)))))) (fun i => [(57, VI (i : Int))]) (fun i w' => KX (b19) wL0 w' ∧ i ≤ A.ends.length ∧ NR pairF 2 wt1.heap.size w'.heap.size w' 71 69 b19 i 0 i (mixF (powR A r) (List.replicate A.ends.length []) i)) (fun i => A.ends.length - i) 0 ((Subs.c (lkI rfl (by omega)) Subs.n)) (⟨KX.refl _ _, ⟨Nat.zero_le _, hR0⟩⟩) ?_
    rintro i wL4 ⟨hRL4, hi', hR⟩
    have hzL4 := hRL4.size
    replace hA := hA.kx hRL4 (by omega)
    replace hB2 := hB2.kx hRL4 (by omega)
    replace hB4 := hB4.kx hRL4 (by omega)
    replace hB5 := hB5.kx hRL4 (by omega)
    replace hO22 := hO22.kx hRL4 (by omega)
    replace hO25 := hO25.kx hRL4 (by omega)
    replace hI9 := hI9.kx hRL4 (by omega)
    replace hE := hE.kx hRL4 (by omega)
    refine W_seq ?_
    refine W_region ?_
    refine WL_q rfl (ev_lss rfl rfl) ?_
    refine WL_nil ?_
    refine thenE_n ?_
    refine W_seq ?_
    refine W_cond rfl (fun hg58 => ?_) (fun hg58 => ?_)
    · have hp58 := of_decide_eq_true hg58
      refine W_skip ?_
      refine thenE_n ?_
      refine W_seq ?_
      refine W_block ?_
      refine W_seq ?_
      refine W_region ?_
      refine WL_q rfl (ev_move rfl) ?_
      have hilt : i < A.ends.length := by omega
      have hl60 : i < (nearA A r).length := by omega
      have ht60 := totL_le hl60
      obtain ⟨a60, c60, hc60, hr60⟩ := hI9.row hl60
      refine WL_q rfl (ev_indexAddr Try.underlying43 sz23 rfl rfl (hI9.isSome (by omega)) (by omega) (by omega)) ?_
      refine WL_q rfl (ev_load one23 rfl (hc60)) ?_
      refine WL_q rfl (ev_assign rfl) ?_
      refine WL_q rfl (ev_assign rfl) ?_
      refine WL_nil ?_
      refine thenE_n ?_
      refine W_seq ?_
      refine W_region ?_
      refine WL_q rfl (ev_move rfl) ?_
      refine WL_q rfl (ev_len Try.underlying23 rfl) ?_
      refine WL_q rfl (ev_move rfl) ?_
      refine WL_nil ?_
      refine thenE_n ?_
      refine W_block ?_
      refine W_loopC (G := Nat) [(4, _), (5, _), (6, _), (11, _), (55, _), (56, _), (57, _), (62, _), (63, _)] ((Subs.c rfl (Subs.c rfl (Subs.c rfl (Subs.c rfl (Subs.c rfl (Subs.c rfl (Subs.c rfl (Subs.c rfl (Subs.c rfl Subs.n)))))))))) (fun k => [(64, VI (k : Int))]) (fun k w' => KX (b19) wL4 w' ∧ k ≤ (powR A r i).length ∧ NR pairF 2 wt1.heap.size w'.heap.size w' 71 69 b19 i wL4.heap.size (i + 1) ((mixF (powR A r) (List.replicate A.ends.length []) i).set i ((powR A r i).take k))) (fun g => (powR A r i).length - g) 0 ((Subs.c (lkI rfl (by omega)) Subs.n)) (⟨KX.refl _ _, ⟨Nat.zero_le _, (hR.fwd (Nat.le_refl _) (by omega)).to (mixF_nil hilt)⟩⟩) ?_
      rintro k wL6 ⟨hRL6, hk', hR⟩
      have hzL6 := hRL6.size
      replace hA := hA.kx hRL6 (by omega)
      replace hB2 := hB2.kx hRL6 (by omega)
      replace hB4 := hB4.kx hRL6 (by omega)
      replace hB5 := hB5.kx hRL6 (by omega)
      replace hO22 := hO22.kx hRL6 (by omega)
      replace hO25 := hO25.kx hRL6 (by omega)
      replace hI9 := hI9.kx hRL6 (by omega)
      replace hr60 := hr60.kx hRL6 (by omega)
      replace hE := hE.kx hRL6 (by omega)
      replace hRL4 := hRL4.kx hRL6 (by omega)
      have hpl := powR_len A r i
      have hal := nearA_at (A := A) (r := r) (v := i) (h := by omega)
      have hall := congrArg List.length hal
      have hnle := near_le A r i
      refine W_seq ?_
      refine W_region ?_
      refine WL_q rfl (ev_lss rfl rfl) ?_
      refine WL_nil ?_
      refine thenE_n ?_
      refine W_seq ?_
      refine W_cond rfl (fun hg65 => ?_) (fun hg65 => ?_)
      · have hp65 := of_decide_eq_true hg65
        refine W_skip ?_
        refine thenE_n ?_
        refine W_seq ?_
        refine W_block ?_
        refine W_seq ?_
        refine W_region ?_
        obtain ⟨vs, hbl, hBk, hOA, hvm, hvj⟩ := hR
        have hvl := hOA.len
        have hxl : ((mixF (powR A r) (List.replicate A.ends.length []) i).set i ((powR A r i).take k)).length = A.ends.length := by simp [mixF_len]
        have hiv : i < vs.length := by omega
        have hix : i < ((mixF (powR A r) (List.replicate A.ends.length []) i).set i ((powR A r i).take k)).length := by omega
        have hO := (hOA.own _ hiv hix).above (m := wL4.heap.size) (fun q hq => hvm q (by rw [getD_eq hiv]; exact hq))
        have e8 := rowv_at9 hiv hix
        have hOt := hOA.top i hiv
        have hxr : ((mixF (powR A r) (List.replicate A.ends.length []) i).set i ((powR A r i).take k))[i] = (powR A r i).take k := List.getElem_set_self ..
        have hrl : (((mixF (powR A r) (List.replicate A.ends.length []) i).set i ((powR A r i).take k))[i]).length ≤ 40 := by rw [hxr, List.length_take]; omega
        refine WL_q rfl (ev_indexAddr Try.underlying23 sz3 rfl rfl (hr60.isSome (by omega)) (by omega) (by omega)) ?_
        refine WL_q rfl (ev_load one3 rfl (hr60.cell (i := k) (by omega))) ?_
        have hxm : (nearA A r)[i][k] ∈ nearL A r i := by rw [← hal]; exact List.getElem_mem _
        generalize hxe : (nearA A r)[i][k] = x at hxm ⊢
        obtain ⟨hx1, hx2, hx3, hx4⟩ := near_mem hxm
        have hxe2 := (List.getElem_of_eq hal.symm (i := k) (by omega)).trans hxe
        have hax := nearA_at (A := A) (r := r) (v := x.toNat) (h := by omega)
        have haxl := congrArg List.length hax
        have hnle2 := near_le A r x.toNat
        have hsy := near_sym hkA hilt hxm
        refine WL_q rfl (ev_assign rfl) ?_
        refine WL_nil ?_
        refine thenE_n ?_
        refine W_seq ?_
        refine W_region ?_
        refine WL_q rfl (ev_assign rfl) ?_
        refine WL_nil ?_
        refine thenE_n ?_
        refine W_seq ?_
        refine W_block ?_
        refine W_loopC (G := Nat) [(4, _), (5, _), (6, _), (11, _), (14, _), (55, _), (56, _), (57, _), (62, _), (63, _), (64, _)] ((Subs.c rfl (Subs.c rfl (Subs.c rfl (Subs.c rfl (Subs.c rfl (Subs.c rfl (Subs.c rfl (Subs.c rfl (Subs.c rfl (Subs.c rfl (Subs.c rfl Subs.n)))))))))))) (fun j => [(15, VI (j : Int))]) (fun j w' => Ext wL6 w' ∧ ∀ y (_ : y < j) (h2 : y < (nearL A r x.toNat).length), decide ((i : Int) = (nearL A r x.toNat)[y]) = false) (fun g => (nearL A r x.toNat).length - g) 0 ((Subs.c (lkI rfl (by omega)) Subs.n)) (⟨Ext.refl _, fun y h => absurd h (Nat.not_lt_zero _)⟩) ?_
        rintro j wL8 ⟨hRL8, hJ⟩
        have hzL8 := hRL8.size
        replace hE := hE.trans hRL8
        replace hRL4 := hRL4.trans hRL8
        replace hRL6 := hRL6.trans hRL8
        replace hA := hA.ext hRL8
        replace hB2 := hB2.ext hRL8
        replace hB4 := hB4.ext hRL8
        replace hB5 := hB5.ext hRL8
        replace hO22 := hO22.ext hRL8
        replace hO25 := hO25.ext hRL8
        replace hI9 := hI9.ext hRL8
        replace hr60 := hr60.ext hRL8
        replace hBk := hBk.ext hRL8
        replace hOA := hOA.ext hRL8
        replace hO := hO.ext hRL8
        have hjl := srch_lt hsy hJ
        have hjx := List.getElem_of_eq hax (i := j) (by omega)
        refine W_seq ?_
        refine W_seq ?_
        refine W_region ?_
        refine WL_q rfl (ev_move rfl) ?_
        refine WL_q rfl (ev_move rfl) ?_
        have hl70 : x.toNat < (nearA A r).length := by omega
        have ht70 := totL_le hl70
        obtain ⟨a70, c70, hc70, hr70⟩ := hI9.row hl70
        refine WL_q rfl (ev_indexAddr Try.underlying43 sz23 rfl rfl (hI9.isSome (by omega)) (by omega) (by omega)) ?_
        refine WL_q rfl (ev_load one23 rfl (hc70)) ?_
        refine WL_q rfl (ev_move rfl) ?_
        refine WL_q rfl (ev_indexAddr Try.underlying23 sz3 rfl rfl (hr70.isSome (by omega)) (by omega) (by omega)) ?_
        refine WL_q rfl (ev_load one3 rfl (hr70.cell (i := j) (by omega))) ?_
        refine WL_q rfl (ev_move rfl) ?_
        refine WL_q rfl (ev_neq rfl rfl) ?_
        refine WL_nil ?_
        refine thenE_n ?_
        refine W_cond rfl (fun hg76 => ?_) (fun hg76 => ?_)
        · have hp76 := of_decide_eq_true hg76
          refine W_skip ?_
          refine thenE_n ?_
          refine W_block ?_
          refine W_region ?_
          refine WL_q rfl (ev_move rfl) ?_
          refine WL_q rfl (ev_add rfl rfl (by omega)) ?_
          refine WL_q rfl (ev_assign rfl) ?_
          refine WL_nil ?_
          refine blockE_n ?_
          refine thenE_n ?_
          exact ⟨j + 1, (Subs.c rfl (Subs.c rfl (Subs.c rfl (Subs.c rfl (Subs.c rfl (Subs.c rfl (Subs.c rfl (Subs.c rfl (Subs.c rfl (Subs.c rfl (Subs.c rfl Subs.n))))))))))), (Subs.c (lkI rfl (by omega)) Subs.n), ⟨hRL8, dsucc (P := fun y h2 => decide ((i : Int) = (nearL A r x.toNat)[y]) = false) hJ hjl (decide_eq_false fun e => hp76 (by rw [hjx]; exact e.symm))⟩, by first | omega | (dsimp only; omega)⟩
        · have hp76 := of_decide_eq_false hg76
          refine W_exit ?_
          refine thenE_x ?_
          refine thenE_x ?_
          refine blockE_hit ?_
          refine thenE_n ?_
          refine W_drawZ 14 wL4.heap.size wL8.heap.size 0 0 (fun w' => True) [(0, true), (1, true), (2, true), (3, true), (4, true), (5, true), (6, true), (7, true), (8, true), (9, true), (10, true), (11, false), (12, false), (13, true), (14, false)] mixed (by kernel_rfl) rfl (by kernel_rfl) (fun _ _ => trivial) ?_
          intro wd24 hEd24 hzd24
          replace hE := hE.trans hEd24
          replace hRL4 := hRL4.trans hEd24
          replace hRL6 := hRL6.trans hEd24
          replace hA := hA.ext hEd24
          replace hB2 := hB2.ext hEd24
          replace hB4 := hB4.ext hEd24
          replace hB5 := hB5.ext hEd24
          replace hO22 := hO22.ext hEd24
          replace hO25 := hO25.ext hEd24
          replace hI9 := hI9.ext hEd24
          replace hr60 := hr60.ext hEd24
          replace hBk := hBk.ext hEd24
          replace hOA := hOA.ext hEd24
          replace hO := hO.ext hEd24
          replace hr70 := hr70.ext hEd24
          have hDd24 := (Rg.refl : Rg wL4.heap.size wL8.heap.size 0 0 wd24 wd24)
          refine PZ_q rfl rfl rfl (fun wq hq => ev_fieldAddr fo29_0 rfl) ?_
          refine PZ_q rfl rfl rfl (fun wq hq => ev_load one27 rfl ((hB5.rg hq.1 (by omega)).cell rfl)) ?_
          refine PZ_q rfl rfl rfl (fun wq hq => ev_move rfl) ?_
          refine PZ_q rfl rfl rfl (fun wq hq => ev_fieldAddr fo29_0 rfl) ?_
          refine PZ_q rfl rfl rfl (fun wq hq => ev_load one27 rfl ((hB5.rg hq.1 (by omega)).cell rfl)) ?_
          refine PZ_q rfl rfl rfl (fun wq hq => ev_move rfl) ?_
          refine PZ_q rfl rfl rfl (fun wq hq => ev_indexAddr Try.underlying27 sz69 rfl rfl rfl (by omega) (by omega)) ?_
          refine PZ_q rfl rfl rfl (fun wq hq => ev_load one69 rfl (hq.1.cell' (hBk.cellAt e8 (by simp)) (by omega))) ?_
          refine PZ_q rfl rfl rfl (fun wq hq => ev_move rfl) ?_
          refine PZ_q rfl rfl rfl (fun wq hq => ev_move rfl) ?_
          refine PZ_q rfl rfl rfl (fun wq hq => ev_build2 sn71_2 rfl rfl rfl rfl) ?_
          refine PZ_m rfl rfl rfl (ev_lit1 Try.underlying69 el71 (by decide) (by decide) rfl rfl) ?_
          rintro _ w90 ⟨rfl, hN90⟩
          have hz90 := hN90.size
          replace hE := hE.trans hN90.ext
          replace hRL4 := hRL4.trans hN90.ext
          replace hRL6 := hRL6.trans hN90.ext
          replace hDd24 := hDd24.trans hN90.ext
          replace hOA := hOA.ext hN90.ext
          replace hO := hO.ext hN90.ext
          have hB90 := hN90.blk
          refine ⟨⟨hDd24, trivial⟩, ?_⟩
          have hA_12 := hA.rg hDd24 (by omega)
          have hB2_12 := hB2.rg hDd24 (by omega)
          have hB4_12 := hB4.rg hDd24 (by omega)
          have hB5_12 := hB5.rg hDd24 (by omega)
          have hO22_12 := hO22.rg hDd24 (by omega)
          have hO25_12 := hO25.rg hDd24 (by omega)
          have hI9_12 := hI9.rg hDd24 (by omega)
          have hr60_12 := hr60.rg hDd24 (by omega)
          have hBk_12 := hBk.rg hDd24 (by omega)
          have hr70_12 := hr70.rg hDd24 (by omega)
          refine PZ_m rfl rfl rfl (ev_append Try.underlying69 el71 rfl (by decide) rfl rfl hO (SAt.of_blk (cs := [_, _]) (ds := []) hB90) rfl (by simp [Value.oneCell']) (by omega) (by unfold maxLen; omega) (by omega)) ?_
          rintro _ w91 ⟨a91, c91, rfl, hO91, hK91, hQ91⟩
          have hz91 := hK91.size
          replace hE := hE.app hK91 (fun q hq => by have := (hO.block q hq).1; have := hOt q hq; omega)
          replace hRL4 := hRL4.app hK91 (fun q hq => by have := (hO.block q hq).1; have := hOt q hq; omega)
          replace hRL6 := hRL6.app hK91 (fun q hq => by have := (hO.block q hq).1; have := hOt q hq; omega)
          replace hDd24 := hDd24.app hK91 (fun q hq => by have := (hO.block q hq).1; have := hOt q hq; omega)
          replace hO := hO91
          refine ⟨⟨hDd24, trivial⟩, ?_⟩
          refine PZ_q rfl rfl rfl (fun wq hq => ev_indexAddr Try.underlying27 sz69 rfl rfl rfl (by omega) (by omega)) ?_
          replace hA := hA.rg hDd24 (by omega)
          replace hB2 := hB2.rg hDd24 (by omega)
          replace hB4 := hB4.rg hDd24 (by omega)
          replace hB5 := hB5.rg hDd24 (by omega)
          replace hO22 := hO22.rg hDd24 (by omega)
          replace hO25 := hO25.rg hDd24 (by omega)
          replace hI9 := hI9.rg hDd24 (by omega)
          replace hr60 := hr60.rg hDd24 (by omega)
          replace hBk := hBk.rg hDd24 (by omega)
          replace hr70 := hr70.rg hDd24 (by omega)
          refine PZ_z rfl (ev_store sz69 rfl rfl rfl hBk (by simp; omega)) ?_
          rintro _ w24_14 hS24_14
          have hz24_14 := hS24_14.size
          replace hE := hE.sto hS24_14 (by omega)
          replace hRL4 := hRL4.sto hS24_14 (by omega)
          replace hRL6 := hRL6.sto hS24_14 (by omega)
          replace hA := hA.sto hS24_14 (by omega)
          replace hB2 := hB2.sto hS24_14 (by omega)
          replace hB4 := hB4.sto hS24_14 (by omega)
          replace hB5 := hB5.sto hS24_14 (by omega)
          replace hO22 := hO22.sto hS24_14 (by omega)
          replace hO25 := hO25.sto hS24_14 (by omega)
          replace hI9 := hI9.sto hS24_14 (by omega)
          replace hr60 := hr60.sto hS24_14 (by omega)
          replace hr70 := hr70.sto hS24_14 (by omega)
          replace hO := hO.sto hS24_14 (by omega)
          replace hBk := hS24_14.blk
          have hR3 := NR.put hbl hOA (by omega) hiv hvm (by omega) hvj (by omega) hK91 ((own_snocP hO91).mono (by omega)) (by simp) hQ91 hS24_14 (by omega) hBk
          refine PW_nil ?_
          refine blockE_n ?_
          refine thenE_n ?_
          refine W_region ?_
          refine WL_q rfl (ev_add rfl rfl (by omega)) ?_
          refine WL_q rfl (ev_move rfl) ?_
          refine WL_nil ?_
          refine thenE_n ?_
          have hjI : (j : Int) = idxF (fun y => decide ((i : Int) = y)) (nearL A r x.toNat) := (idxF_at (p := fun y => decide ((i : Int) = y)) hjl (decide_eq_true (by omega)) hJ).symm
          exact ⟨k + 1, (Subs.c rfl (Subs.c rfl (Subs.c rfl (Subs.c rfl (Subs.c rfl (Subs.c rfl (Subs.c rfl (Subs.c rfl (Subs.c rfl Subs.n))))))))), (Subs.c (lkI rfl (by omega)) Subs.n), ⟨hRL6, ⟨by omega, hR3.to (by rw [hxr, List.set_set, hjI, powR_take (by omega) hxe2])⟩⟩, by first | omega | (dsimp only; omega)⟩
      · have hp65 := of_decide_eq_false hg65
        refine W_exit ?_
        refine thenE_x ?_
        refine thenE_x ?_
        refine blockE_hit ?_
        refine blockE_n ?_
        refine thenE_n ?_
        refine W_region ?_
        refine WL_q rfl (ev_add rfl rfl (by omega)) ?_
        refine WL_q rfl (ev_move rfl) ?_
        refine WL_nil ?_
        refine thenE_n ?_
        exact ⟨i + 1, (Subs.c rfl (Subs.c rfl (Subs.c rfl (Subs.c rfl (Subs.c rfl Subs.n))))), (Subs.c (lkI rfl (by omega)) Subs.n), ⟨hRL4, ⟨by omega, (hR.fwd (by omega) (by omega)).to (by have hk9 : k = (powR A r i).length := (by omega); subst hk9; rw [List.take_length]; exact mixF_set (f := powR A r) (by simpa using hilt))⟩⟩, by first | omega | (dsimp only; omega)⟩
    · have hp58 := of_decide_eq_false hg58
      refine W_exit ?_
      refine thenE_x ?_
      refine thenE_x ?_
      refine blockE_hit ?_
      refine thenE_n ?_
      refine W_seq ?_
      refine W_region ?_
      have hi9 : i = A.ends.length := by omega
      subst hi9
      have hON : OwnNet w4.heap.size wL4.heap.size wL4 71 3 ⟨some ⟨b19, 0, none⟩, A.ends.length, a22, c22, a25, c25⟩ (powN A r) := NR.net (hR.to (show _ = (powN A r).ends by rw [mixF_full (by simp), List.length_replicate]; rfl)) (by omega) (by omega) (by simp [powN]) (by unfold maxLen; simp [powN]; omega) (by omega) (by omega) hO22 hO25
      have hNi := hON.is
      refine WL_q rfl (ev_loads st29 sz29 rfl (cellsB hB5) rfl) ?_
      refine WL_s (ev_stores sz29 rfl rfl rfl (by simp [Value.oneCell']) hB4 (by simp)) ?_
      rintro _ w27_1 hS27_1
      have hz27_1 := hS27_1.size
      replace hE := hE.sto hS27_1 (by omega)
      replace hA := hA.sto hS27_1 (by omega)
      replace hB2 := hB2.sto hS27_1 (by omega)
      replace hB5 := hB5.sto hS27_1 (by omega)
      replace hO22 := hO22.sto hS27_1 (by omega)
      replace hO25 := hO25.sto hS27_1 (by omega)
      replace hI9 := hI9.sto hS27_1 (by omega)
      replace hNi := hNi.sto hS27_1 (by omega)
      replace hB4 : Blk w27_1 _ _ [_, _, _] := hS27_1.blk
      refine WL_nil ?_
      refine thenE_n ?_
      refine W_ret ?_
      refine retc rfl rfl st29 sz29 (cellsB hB4) rfl ?_
      exact ⟨_, by simp [netV, powN], hNi.mono (by omega) (by omega), hE⟩

set_option maxHeartbeats 1000000 in
set_option maxRecDepth 100000 in
theorem sPowerOf_spec {loA hiA : Nat} (nA : NA) (A : Net) (r : Int) (w : World) (hA : IsNet loA hiA w nA A) (hhiA : hiA ≤ w.heap.size) (hnA : totN A ≤ 1048576) :
    Fn Try.prog 21 #[netV nA A, VI r] w (fun o9 w' => ∃ h' U q, o9 = .tuple #[netV h' U, VB q] ∧ RV (⟨[], [], []⟩ : Net) (opt ((NOk A ∧ inR r 1 40 = true) ∧ NOk (powN A r)) (powN A r)) U q ∧ IsNet 0 w'.heap.size w' h' U ∧ totN U ≤ 1048576 ∧ Ext w w') := by
  have hqA := totL_len A.ends
  have hmA : totL A.ends + A.ids.length + A.inputs.length ≤ 1048576 := hnA
  have hE := Ext.refl w
  refine Fn_of Try.func21 rfl rfl (by kernel_rfl) rfl ?_
  refine W_seq ?_
  refine W_region ?_
  refine WL_m rfl (ev_box rfl) ?_
  rintro _ w2 ⟨rfl, hN2⟩
  have hz2 := hN2.size
  replace hE := hE.trans hN2.ext
  replace hA := hA.ext hN2.ext
  have hB2 : Blk w2 _ _ [_, _, _] := hN2.blk
  refine WL_m rfl (ev_alloc zr29) ?_
  rintro _ w4 ⟨rfl, hN4⟩
  have hz4 := hN4.size
  replace hE := hE.trans hN4.ext
  replace hA := hA.ext hN4.ext
  replace hB2 := hB2.ext hN4.ext
  have hB4 : Blk w4 _ _ [_, _, _] := hN4.blk
  refine WL_q rfl (ev_assign rfl) ?_
  refine WL_nil ?_
  refine thenE_n ?_
  refine W_seq ?_
  refine W_seq ?_
  refine W_region ?_
  refine WL_q rfl (ev_loads st29 sz29 rfl (cellsB hB2) rfl) ?_
  refine WL_m rfl (ev_call rfl (neGood_spec _ A _ hA (by omega) (by omega))) ?_
  rintro _ w7 ⟨b7, rfl, hb7, hE7⟩
  have hz7 := hE7.size
  replace hE := hE.trans hE7
  replace hA := hA.ext hE7
  replace hB2 := hB2.ext hE7
  replace hB4 := hB4.ext hE7
  refine WL_q rfl (ev_not rfl) ?_
  refine WL_q rfl (ev_move rfl) ?_
  refine WL_splitv (t := 9) rfl (fun hg8 => ?_) (fun hg8 => ?_)
  · have hg7 := not_true hg8
    have hp7 := ttN hb7 hg7
    refine WL_no rfl rfl hg8 rfl ?_
    refine WL_no rfl rfl hg8 rfl ?_
    refine WL_no rfl rfl hg8 rfl ?_
    refine WL_q rfl (ev_pick_t rfl hg8 rfl) ?_
    refine WL_nil ?_
    refine thenE_n ?_
    refine W_cond_t rfl ?_
    refine W_seq ?_
    refine W_region ?_
    refine WL_q rfl (ev_buildP0 sn29_3 zr29 ) ?_
    refine WL_s (ev_stores sz29 rfl rfl rfl (by simp [Value.oneCell']) hB4 (by simp)) ?_
    rintro _ w2_1 hS2_1
    have hz2_1 := hS2_1.size
    replace hE := hE.sto hS2_1 (by omega)
    replace hA := hA.sto hS2_1 (by omega)
    replace hB2 := hB2.sto hS2_1 (by omega)
    replace hB4 : Blk w2_1 _ _ [_, _, _] := hS2_1.blk
    refine WL_q rfl (ev_assign rfl) ?_
    refine WL_nil ?_
    refine thenE_n ?_
    refine W_ret ?_
    refine thenE_r ?_
    refine retc2 rfl rfl st29 sz29 (cellsB hB4) rfl rfl ?_
    first | (exact ⟨⟨none, 0, none, 0, none, 0⟩, ⟨[], [], []⟩, _, rfl, .no (fun h => hp7 h.1.1), ⟨Nest.nil, Ints.nil, Ints.nil⟩, by decide, hE⟩) | (exact ⟨⟨none, 0, none, 0, none, 0⟩, ⟨[], [], []⟩, _, rfl, .no (fun h => tf hg11 h.1.2), ⟨Nest.nil, Ints.nil, Ints.nil⟩, by decide, hE⟩) | (exact hq18.elim (fun ⟨e1, h1, e2, e3⟩ => (by subst e1 e2 e3; exact ⟨_, powN A r, _, rfl, .yes ⟨⟨hp7, inR_true.2 hp11⟩, h1⟩ rfl, hN17.mono (Nat.zero_le _) (by omega), pow_tot hp7, hE⟩)) (fun ⟨e1, h1, e2, e3⟩ => (by subst e1 e2 e3; exact ⟨⟨none, 0, none, 0, none, 0⟩, ⟨[], [], []⟩, _, rfl, .no (fun h => h1 h.2), ⟨Nest.nil, Ints.nil, Ints.nil⟩, by decide, hE⟩)))
  · have hg7 := not_false hg8
    have hp7 := hb7.1 hg7
    refine WL_qg rfl rfl hg8 rfl (ev_move rfl) ?_
    refine WL_mg rfl rfl hg8 rfl (ev_call rfl (l1In_spec _ _ _ _)) ?_
    rintro _ _ ⟨rfl, rfl⟩
    refine WL_qg rfl rfl hg8 rfl (ev_not rfl) ?_
    refine WL_q rfl (ev_pick_f rfl hg8 rfl) ?_
    refine WL_nil ?_
    refine thenE_n ?_
    refine W_cond rfl (fun hg12 => ?_) (fun hg12 => ?_)
    · have hg11 := not_true hg12
      have hp11 := inR_false.1 hg11
      refine W_seq ?_
      refine W_region ?_
      refine WL_q rfl (ev_buildP0 sn29_3 zr29 ) ?_
      refine WL_s (ev_stores sz29 rfl rfl rfl (by simp [Value.oneCell']) hB4 (by simp)) ?_
      rintro _ w2_1 hS2_1
      have hz2_1 := hS2_1.size
      replace hE := hE.sto hS2_1 (by omega)
      replace hA := hA.sto hS2_1 (by omega)
      replace hB2 := hB2.sto hS2_1 (by omega)
      replace hB4 : Blk w2_1 _ _ [_, _, _] := hS2_1.blk
      refine WL_q rfl (ev_assign rfl) ?_
      refine WL_nil ?_
      refine thenE_n ?_
      refine W_ret ?_
      refine thenE_r ?_
      refine retc2 rfl rfl st29 sz29 (cellsB hB4) rfl rfl ?_
      first | (exact ⟨⟨none, 0, none, 0, none, 0⟩, ⟨[], [], []⟩, _, rfl, .no (fun h => hp7 h.1.1), ⟨Nest.nil, Ints.nil, Ints.nil⟩, by decide, hE⟩) | (exact ⟨⟨none, 0, none, 0, none, 0⟩, ⟨[], [], []⟩, _, rfl, .no (fun h => tf hg11 h.1.2), ⟨Nest.nil, Ints.nil, Ints.nil⟩, by decide, hE⟩) | (exact hq18.elim (fun ⟨e1, h1, e2, e3⟩ => (by subst e1 e2 e3; exact ⟨_, powN A r, _, rfl, .yes ⟨⟨hp7, inR_true.2 hp11⟩, h1⟩ rfl, hN17.mono (Nat.zero_le _) (by omega), pow_tot hp7, hE⟩)) (fun ⟨e1, h1, e2, e3⟩ => (by subst e1 e2 e3; exact ⟨⟨none, 0, none, 0, none, 0⟩, ⟨[], [], []⟩, _, rfl, .no (fun h => h1 h.2), ⟨Nest.nil, Ints.nil, Ints.nil⟩, by decide, hE⟩)))
    · have hg11 := not_false hg12
      have hp11 := inR_true.1 hg11
      refine W_skip ?_
      refine thenE_n ?_
      refine W_seq ?_
      refine W_region ?_
      refine WL_q rfl (ev_loads st29 sz29 rfl (cellsB hB2) rfl) ?_
      refine WL_q rfl (ev_move rfl) ?_
      refine WL_m rfl (ev_call rfl (mePower_spec _ A _ _ hA (by omega) (by omega) (by assumption))) ?_
      rintro _ w17 ⟨h17, rfl, hN17, hE17⟩
      have hz17 := hE17.size
      replace hE := hE.trans hE17
      replace hA := hA.ext hE17
      replace hB2 := hB2.ext hE17
      replace hB4 := hB4.ext hE17
      refine WL_m rfl (ev_call rfl (neIf_spec h17 (powN A r) _ hN17 (by omega) (pow_tot hp7))) ?_
      rintro _ w18 ⟨h18, U18, q18, rfl, hq18, hE18⟩
      have hz18 := hE18.size
      replace hE := hE.trans hE18
      replace hA := hA.ext hE18
      replace hB2 := hB2.ext hE18
      replace hB4 := hB4.ext hE18
      replace hN17 := hN17.ext hE18
      refine WL_q rfl (ev_extract rfl rfl) ?_
      refine WL_q rfl (ev_extract rfl rfl) ?_
      refine WL_s (ev_stores sz29 rfl rfl rfl (by simp [Value.oneCell']) hB4 (by simp)) ?_
      rintro _ w3_6 hS3_6
      have hz3_6 := hS3_6.size
      replace hE := hE.sto hS3_6 (by omega)
      replace hA := hA.sto hS3_6 (by omega)
      replace hB2 := hB2.sto hS3_6 (by omega)
      replace hN17 := hN17.sto hS3_6 (by omega)
      replace hB4 : Blk w3_6 _ _ [_, _, _] := hS3_6.blk
      refine WL_q rfl (ev_assign rfl) ?_
      refine WL_nil ?_
      refine thenE_n ?_
      refine W_ret ?_
      refine retc2 rfl rfl st29 sz29 (cellsB hB4) rfl rfl ?_
      first | (exact ⟨⟨none, 0, none, 0, none, 0⟩, ⟨[], [], []⟩, _, rfl, .no (fun h => hp7 h.1.1), ⟨Nest.nil, Ints.nil, Ints.nil⟩, by decide, hE⟩) | (exact ⟨⟨none, 0, none, 0, none, 0⟩, ⟨[], [], []⟩, _, rfl, .no (fun h => tf hg11 h.1.2), ⟨Nest.nil, Ints.nil, Ints.nil⟩, by decide, hE⟩) | (exact hq18.elim (fun ⟨e1, h1, e2, e3⟩ => (by subst e1 e2 e3; exact ⟨_, powN A r, _, rfl, .yes ⟨⟨hp7, inR_true.2 hp11⟩, h1⟩ rfl, hN17.mono (Nat.zero_le _) (by omega), pow_tot hp7, hE⟩)) (fun ⟨e1, h1, e2, e3⟩ => (by subst e1 e2 e3; exact ⟨⟨none, 0, none, 0, none, 0⟩, ⟨[], [], []⟩, _, rfl, .no (fun h => h1 h.2), ⟨Nest.nil, Ints.nil, Ints.nil⟩, by decide, hE⟩)))

set_option maxHeartbeats 1000000 in
set_option maxRecDepth 100000 in
theorem law_PowerOf (nA : NA) (A : Net) (r : Int) (w : World) (hA : IsNet 0 w.heap.size w nA A) (hsA : SmN A) (hir : I64 r) :
    Fn Try.prog 5 #[netV nA A, VI r] w (fun v w' => v = VB true ∧ Ext w w') := by
  have hE := Ext.refl w
  refine Fn_of Try.func5 rfl rfl (by kernel_rfl) rfl ?_
  refine W_seq ?_
  refine W_region ?_
  refine WL_m rfl (ev_box rfl) ?_
  rintro _ w2 ⟨rfl, hN2⟩
  have hz2 := hN2.size
  replace hE := hE.trans hN2.ext
  replace hA := hA.ext hN2.ext
  have hB2 : Blk w2 _ _ [_, _, _] := hN2.blk
  refine WL_q rfl (ev_assign rfl) ?_
  refine WL_nil ?_
  refine thenE_n ?_
  refine W_seq ?_
  refine W_region ?_
  refine WL_q rfl (ev_assign rfl) ?_
  refine WL_nil ?_
  refine thenE_n ?_
  refine W_seq ?_
  refine W_region ?_
  refine WL_q rfl (ev_loads st25 sz25 rfl (cellsB hB2) rfl) ?_
  refine WL_q rfl (ev_move rfl) ?_
  refine WL_m rfl (ev_call rfl (szNetwork_spec _ A _ _ hA (by omega) hsA)) ?_
  rintro _ w18 ⟨r18, rfl, hE18, hr18⟩
  have hz18 := hE18.size
  replace hE := hE.trans hE18
  replace hA := hA.ext hE18
  replace hB2 := hB2.ext hE18
  refine WL_q rfl (ev_assign rfl) ?_
  refine WL_nil ?_
  refine thenE_n ?_
  refine W_seq ?_
  refine W_seq ?_
  refine W_region ?_
  refine WL_q rfl (ev_move rfl) ?_
  refine WL_q rfl (ev_lss rfl rfl) ?_
  refine WL_nil ?_
  refine thenE_n ?_
  refine W_cond rfl (fun hg20 => ?_) (fun hg20 => ?_)
  · have hp20 := of_decide_eq_true hg20
    refine W_seq ?_
    refine W_region ?_
    refine WL_q rfl (ev_assign rfl) ?_
    refine WL_nil ?_
    refine thenE_n ?_
    refine W_ret ?_
    refine thenE_r ?_
    refine ret1 rfl rfl ?_
    first | (exact ⟨rfl, hE⟩) | (exact (tfX hg20).elim) | (exact (decF hg20).elim) | (exfalso; omega)
  · have hp20 := of_decide_eq_false hg20
    refine W_skip ?_
    refine thenE_n ?_
    refine W_seq ?_
    refine W_region ?_
    refine WL_q rfl (ev_loads st25 sz25 rfl (cellsB hB2) rfl) ?_
    refine WL_m rfl (ev_call rfl (toNetwork_spec _ A _ hA (by omega) (by omega))) ?_
    rintro _ w23 ⟨h23, rfl, hF23, hE23⟩
    have hz23 := hE23.size
    replace hE := hE.trans hE23
    replace hA := hA.ext hE23
    replace hB2 := hB2.ext hE23
    have hN23 := hF23.is
    refine WL_q rfl (ev_move rfl) ?_
    refine WL_m rfl (ev_call rfl (sPowerOf_spec _ A _ _ hN23 (by omega) (by omega))) ?_
    rintro _ w25 ⟨h25, U25, q25, rfl, hr25, hN25, hl25, hE25⟩
    have hz25 := hE25.size
    replace hE := hE.trans hE25
    replace hA := hA.ext hE25
    replace hB2 := hB2.ext hE25
    replace hF23 := hF23.ext hE25
    replace hN23 := hN23.ext hE25
    refine WL_q rfl (ev_move rfl) ?_
    refine WL_q rfl (ev_extract rfl rfl) ?_
    refine WL_q rfl (ev_extract rfl rfl) ?_
    refine WL_m rfl (ev_alloc zr29) ?_
    rintro _ w6 ⟨rfl, hN6⟩
    have hz6 := hN6.size
    replace hE := hE.trans hN6.ext
    replace hA := hA.ext hN6.ext
    replace hB2 := hB2.ext hN6.ext
    replace hF23 := hF23.ext hN6.ext
    replace hN23 := hN23.ext hN6.ext
    replace hN25 := hN25.ext hN6.ext
    have hB6 : Blk w6 _ _ [_, _, _] := hN6.blk
    refine WL_s (ev_stores sz29 rfl rfl rfl (by simp [Value.oneCell']) hB6 (by simp)) ?_
    rintro _ w5_8 hS5_8
    have hz5_8 := hS5_8.size
    replace hE := hE.sto hS5_8 (by omega)
    replace hA := hA.sto hS5_8 (by omega)
    replace hB2 := hB2.sto hS5_8 (by omega)
    replace hF23 := hF23.sto hS5_8 (by omega)
    replace hN23 := hN23.sto hS5_8 (by omega)
    replace hN25 := hN25.sto hS5_8 (by omega)
    replace hB6 : Blk w5_8 _ _ [_, _, _] := hS5_8.blk
    refine WL_q rfl (ev_assign rfl) ?_
    refine WL_nil ?_
    refine thenE_n ?_
    refine W_seq ?_
    refine W_region ?_
    refine WL_q rfl (ev_loads st25 sz25 rfl (cellsB hB2) rfl) ?_
    refine WL_m rfl (ev_call rfl (toNetwork_spec _ A _ hA (by omega) (by omega))) ?_
    rintro _ w29 ⟨h29, rfl, hF29, hE29⟩
    have hz29 := hE29.size
    replace hE := hE.trans hE29
    replace hA := hA.ext hE29
    replace hB2 := hB2.ext hE29
    replace hF23 := hF23.ext hE29
    replace hN23 := hN23.ext hE29
    replace hN25 := hN25.ext hE29
    replace hB6 := hB6.ext hE29
    have hN29 := hF29.is
    refine WL_m rfl (ev_alloc zr29) ?_
    rintro _ w8 ⟨rfl, hN8⟩
    have hz8 := hN8.size
    replace hE := hE.trans hN8.ext
    replace hA := hA.ext hN8.ext
    replace hB2 := hB2.ext hN8.ext
    replace hF23 := hF23.ext hN8.ext
    replace hN23 := hN23.ext hN8.ext
    replace hN25 := hN25.ext hN8.ext
    replace hB6 := hB6.ext hN8.ext
    replace hF29 := hF29.ext hN8.ext
    replace hN29 := hN29.ext hN8.ext
    have hB8 : Blk w8 _ _ [_, _, _] := hN8.blk
    refine WL_s (ev_stores sz29 rfl rfl rfl (by simp [Value.oneCell']) hB8 (by simp)) ?_
    rintro _ w6_3 hS6_3
    have hz6_3 := hS6_3.size
    replace hE := hE.sto hS6_3 (by omega)
    replace hA := hA.sto hS6_3 (by omega)
    replace hB2 := hB2.sto hS6_3 (by omega)
    replace hF23 := hF23.sto hS6_3 (by omega)
    replace hN23 := hN23.sto hS6_3 (by omega)
    replace hN25 := hN25.sto hS6_3 (by omega)
    replace hB6 := hB6.sto hS6_3 (by omega)
    replace hF29 := hF29.sto hS6_3 (by omega)
    replace hN29 := hN29.sto hS6_3 (by omega)
    replace hB8 : Blk w6_3 _ _ [_, _, _] := hS6_3.blk
    refine WL_nil ?_
    refine thenE_n ?_
    refine W_seq ?_
    refine W_region ?_
    refine WL_q rfl (ev_loads st29 sz29 rfl (cellsB hB8) rfl) ?_
    refine WL_q rfl (ev_move rfl) ?_
    refine WL_m rfl (ev_call rfl (PowerOf_spec _ A _ _ hN29 (by omega) (by omega))) ?_
    rintro _ w33 ⟨h33, U33, q33, rfl, hr33, hO33, hl33, hE33⟩
    have hz33 := hE33.size
    replace hE := hE.trans hE33
    replace hA := hA.ext hE33
    replace hB2 := hB2.ext hE33
    replace hF23 := hF23.ext hE33
    replace hN23 := hN23.ext hE33
    replace hN25 := hN25.ext hE33
    replace hB6 := hB6.ext hE33
    replace hF29 := hF29.ext hE33
    replace hN29 := hN29.ext hE33
    replace hB8 := hB8.ext hE33
    refine WL_q rfl (ev_move rfl) ?_
    refine WL_q rfl (ev_extract rfl rfl) ?_
    refine WL_q rfl (ev_extract rfl rfl) ?_
    refine WL_m rfl (ev_alloc zr29) ?_
    rintro _ w9 ⟨rfl, hN9⟩
    have hz9 := hN9.size
    replace hE := hE.trans hN9.ext
    replace hA := hA.ext hN9.ext
    replace hB2 := hB2.ext hN9.ext
    replace hF23 := hF23.ext hN9.ext
    replace hN23 := hN23.ext hN9.ext
    replace hN25 := hN25.ext hN9.ext
    replace hB6 := hB6.ext hN9.ext
    replace hF29 := hF29.ext hN9.ext
    replace hN29 := hN29.ext hN9.ext
    replace hB8 := hB8.ext hN9.ext
    replace hO33 := hO33.ext hN9.ext
    have hB9 : Blk w9 _ _ [_, _, _] := hN9.blk
    refine WL_s (ev_stores sz29 rfl rfl rfl (by simp [Value.oneCell']) hB9 (by simp)) ?_
    rintro _ w7_7 hS7_7
    have hz7_7 := hS7_7.size
    replace hE := hE.sto hS7_7 (by omega)
    replace hA := hA.sto hS7_7 (by omega)
    replace hB2 := hB2.sto hS7_7 (by omega)
    replace hF23 := hF23.sto hS7_7 (by omega)
    replace hN23 := hN23.sto hS7_7 (by omega)
    replace hN25 := hN25.sto hS7_7 (by omega)
    replace hB6 := hB6.sto hS7_7 (by omega)
    replace hF29 := hF29.sto hS7_7 (by omega)
    replace hN29 := hN29.sto hS7_7 (by omega)
    replace hB8 := hB8.sto hS7_7 (by omega)
    replace hO33 := hO33.sto hS7_7 (by omega)
    replace hB9 : Blk w7_7 _ _ [_, _, _] := hS7_7.blk
    refine WL_q rfl (ev_assign rfl) ?_
    refine WL_nil ?_
    refine thenE_n ?_
    refine W_seq ?_
    refine W_seq ?_
    refine W_region ?_
    refine WL_q rfl (ev_loads st29 sz29 rfl (cellsB hB9) rfl) ?_
    refine WL_q rfl (ev_loads st29 sz29 rfl (cellsB hB6) rfl) ?_
    have eU38 := hr25.det1 hr33
    subst eU38
    refine WL_m rfl (ev_call rfl (eqNetwork_spec _ _ U25 _ hO33.is hN25 (by omega))) ?_
    rintro _ w38 ⟨rfl, hE38⟩
    have hz38 := hE38.size
    replace hE := hE.trans hE38
    replace hA := hA.ext hE38
    replace hB2 := hB2.ext hE38
    replace hF23 := hF23.ext hE38
    replace hN23 := hN23.ext hE38
    replace hN25 := hN25.ext hE38
    replace hB6 := hB6.ext hE38
    replace hF29 := hF29.ext hE38
    replace hN29 := hN29.ext hE38
    replace hB8 := hB8.ext hE38
    replace hO33 := hO33.ext hE38
    replace hB9 := hB9.ext hE38
    refine WL_q rfl (ev_not rfl) ?_
    refine WL_q rfl (ev_move rfl) ?_
    refine WL_splitv (t := 40) rfl (fun hg39 => ?_) (fun hg39 => ?_)
    · have hg38 := not_true hg39
      refine WL_no rfl rfl hg39 rfl ?_
      refine WL_no rfl rfl hg39 rfl ?_
      refine WL_no rfl rfl hg39 rfl ?_
      refine WL_q rfl (ev_pick_t rfl hg39 rfl) ?_
      refine WL_nil ?_
      refine thenE_n ?_
      refine W_cond_t rfl ?_
      refine W_seq ?_
      refine W_region ?_
      refine WL_q rfl (ev_assign rfl) ?_
      refine WL_nil ?_
      refine thenE_n ?_
      refine W_ret ?_
      refine thenE_r ?_
      refine ret1 rfl rfl ?_
      first | (exact ⟨rfl, hE⟩) | (exact (bneE hg38 (hr33.det1 hr25)).elim) | (exact absurd (hr33.det1 hr25) hp38) | (exact absurd (hr33.det1 hr25) (of_decide_eq_false hg38)) | (exact (bneE hg38 (hr33.det2 hr25)).elim) | (exact absurd (hr33.det2 hr25) hp38) | (exact absurd (hr33.det2 hr25) (of_decide_eq_false hg38)) | (exact (bneE hg38 (hr33.det3 hr25)).elim) | (exact absurd (hr33.det3 hr25) hp38) | (exact absurd (hr33.det3 hr25) (of_decide_eq_false hg38)) | (exact (tfX hg38).elim) | (exact (decF hg38).elim) | (exfalso; omega)
    · have hg38 := not_false hg39
      refine WL_qg rfl rfl hg39 rfl (ev_move rfl) ?_
      refine WL_qg rfl rfl hg39 rfl (ev_move rfl) ?_
      refine WL_qg rfl rfl hg39 rfl (ev_neq_b Try.underlying4 rfl rfl) ?_
      refine WL_q rfl (ev_pick_f rfl hg39 rfl) ?_
      refine WL_nil ?_
      refine thenE_n ?_
      refine W_cond rfl (fun hg43 => ?_) (fun hg43 => ?_)
      · refine W_seq ?_
        refine W_region ?_
        refine WL_q rfl (ev_assign rfl) ?_
        refine WL_nil ?_
        refine thenE_n ?_
        refine W_ret ?_
        refine thenE_r ?_
        refine ret1 rfl rfl ?_
        first | (exact ⟨rfl, hE⟩) | (exact (bneE hg43 (hr33.det1 hr25)).elim) | (exact absurd (hr33.det1 hr25) hp43) | (exact absurd (hr33.det1 hr25) (of_decide_eq_false hg43)) | (exact (bneE hg43 (hr33.det2 hr25)).elim) | (exact absurd (hr33.det2 hr25) hp43) | (exact absurd (hr33.det2 hr25) (of_decide_eq_false hg43)) | (exact (bneE hg43 (hr33.det3 hr25)).elim) | (exact absurd (hr33.det3 hr25) hp43) | (exact absurd (hr33.det3 hr25) (of_decide_eq_false hg43)) | (exact (tfX hg43).elim) | (exact (decF hg43).elim) | (exfalso; omega)
      · refine W_skip ?_
        refine thenE_n ?_
        refine W_seq ?_
        refine W_seq ?_
        refine W_drawE [(0, true), (1, true), (2, false), (3, false), (4, true)] mixed (by kernel_rfl) rfl (by kernel_rfl) ?_
        intro wd10 hEd10 hzd10
        replace hE := hE.trans hEd10
        replace hA := hA.ext hEd10
        replace hB2 := hB2.ext hEd10
        replace hF23 := hF23.ext hEd10
        replace hN23 := hN23.ext hEd10
        replace hN25 := hN25.ext hEd10
        replace hB6 := hB6.ext hEd10
        replace hF29 := hF29.ext hEd10
        replace hN29 := hN29.ext hEd10
        replace hB8 := hB8.ext hEd10
        replace hO33 := hO33.ext hEd10
        replace hB9 := hB9.ext hEd10
        have hDd10 := Ext.refl wd10
        refine PW_q rfl rfl (fun wq hq => ev_loads st29 sz29 rfl (cellsB (hq.blk hB8)) rfl) ?_
        refine PW_q rfl rfl (fun wq hq => ev_loads st25 sz25 rfl (cellsB (hq.blk hB2)) rfl) ?_
        refine PW_m rfl rfl (ev_call rfl (toNetwork_spec _ A _ hA (by omega) (by omega))) ?_
        rintro _ w47 ⟨h47, rfl, hF47, hE47⟩
        have hz47 := hE47.size
        replace hE := hE.trans hE47
        replace hDd10 := hDd10.trans hE47
        have hN47 := hF47.is
        refine ⟨hDd10, ?_⟩
        have hA_3 := hA.ext hDd10
        have hB2_3 := hB2.ext hDd10
        have hF23_3 := hF23.ext hDd10
        have hN23_3 := hN23.ext hDd10
        have hN25_3 := hN25.ext hDd10
        have hB6_3 := hB6.ext hDd10
        have hF29_3 := hF29.ext hDd10
        have hN29_3 := hN29.ext hDd10
        have hB8_3 := hB8.ext hDd10
        have hO33_3 := hO33.ext hDd10
        have hB9_3 := hB9.ext hDd10
        refine PW_m rfl rfl (ev_call rfl (eqNetwork_spec _ _ A _ hN29_3 hN47 (by omega))) ?_
        rintro _ w48 ⟨rfl, hE48⟩
        have hz48 := hE48.size
        replace hE := hE.trans hE48
        replace hDd10 := hDd10.trans hE48
        replace hF47 := hF47.ext hE48
        replace hN47 := hN47.ext hE48
        refine ⟨hDd10, ?_⟩
        refine PW_q rfl rfl (fun wq hq => ev_not rfl) ?_
        replace hA := hA.ext hDd10
        replace hB2 := hB2.ext hDd10
        replace hF23 := hF23.ext hDd10
        replace hN23 := hN23.ext hDd10
        replace hN25 := hN25.ext hDd10
        replace hB6 := hB6.ext hDd10
        replace hF29 := hF29.ext hDd10
        replace hN29 := hN29.ext hDd10
        replace hB8 := hB8.ext hDd10
        replace hO33 := hO33.ext hDd10
        replace hB9 := hB9.ext hDd10
        refine PW_nil ?_
        refine thenE_n ?_
        refine W_cond rfl (fun hg49 => ?_) (fun hg49 => ?_)
        · have hg48 := not_true hg49
          refine W_seq ?_
          refine W_region ?_
          refine WL_q rfl (ev_assign rfl) ?_
          refine WL_nil ?_
          refine thenE_n ?_
          refine W_ret ?_
          refine thenE_r ?_
          refine ret1 rfl rfl ?_
          first | (exact ⟨rfl, hE⟩) | (exact (bneE hg48 (hr33.det1 hr25)).elim) | (exact absurd (hr33.det1 hr25) hp48) | (exact absurd (hr33.det1 hr25) (of_decide_eq_false hg48)) | (exact (bneE hg48 (hr33.det2 hr25)).elim) | (exact absurd (hr33.det2 hr25) hp48) | (exact absurd (hr33.det2 hr25) (of_decide_eq_false hg48)) | (exact (bneE hg48 (hr33.det3 hr25)).elim) | (exact absurd (hr33.det3 hr25) hp48) | (exact absurd (hr33.det3 hr25) (of_decide_eq_false hg48)) | (exact (tfX hg48).elim) | (exact (decF hg48).elim) | (exfalso; omega)
        · have hg48 := not_false hg49
          refine W_skip ?_
          refine thenE_n ?_
          refine W_seq ?_
          refine W_region ?_
          refine WL_q rfl (ev_assign rfl) ?_
          refine WL_nil ?_
          refine thenE_n ?_
          refine W_seq ?_
          refine W_region ?_
          refine WL_q rfl (ev_loads st29 sz29 rfl (cellsB hB8) rfl) ?_
          refine WL_q rfl (ev_move rfl) ?_
          refine WL_m rfl (ev_call rfl (markNetwork_spec _ A _ _ hF29 (by omega) (by omega) (by omega))) ?_
          rintro _ w52 ⟨r52, rfl, hr52, hK52⟩
          have hz52 := hK52.size
          replace hE := hE.mrk hK52 (by omega)
          replace hA := hA.mrk hK52 (by omega)
          replace hB2 := hB2.mrk hK52 (by omega)
          replace hF23 := hF23.mrk hK52 (by omega)
          replace hN23 := hN23.mrk hK52 (by omega)
          replace hN25 := hN25.mrk hK52 (by omega)
          replace hB6 := hB6.mrk hK52 (by omega)
          replace hB8 := hB8.mrk hK52 (by omega)
          replace hO33 := hO33.mrk hK52 (by omega)
          replace hB9 := hB9.mrk hK52 (by omega)
          replace hF47 := hF47.mrk hK52 (by omega)
          replace hN47 := hN47.mrk hK52 (by omega)
          refine WL_q rfl (ev_assign rfl) ?_
          refine WL_nil ?_
          refine thenE_n ?_
          refine W_seq ?_
          refine W_seq ?_
          refine W_region ?_
          refine WL_q rfl (ev_move rfl) ?_
          refine WL_q rfl (ev_lss rfl rfl) ?_
          refine WL_q rfl (ev_move rfl) ?_
          refine WL_splitv (t := 55) rfl (fun hg54 => ?_) (fun hg54 => ?_)
          · have hp54 := of_decide_eq_true hg54
            refine WL_no rfl rfl hg54 rfl ?_
            refine WL_no rfl rfl hg54 rfl ?_
            refine WL_no rfl rfl hg54 rfl ?_
            refine WL_no rfl rfl hg54 rfl ?_
            refine WL_q rfl (ev_pick_t rfl hg54 rfl) ?_
            refine WL_q rfl (ev_move rfl) ?_
            refine WL_no rfl rfl rfl rfl ?_
            refine WL_no rfl rfl rfl rfl ?_
            refine WL_no rfl rfl rfl rfl ?_
            refine WL_q rfl (ev_pick_t rfl rfl rfl) ?_
            refine WL_nil ?_
            refine thenE_n ?_
            refine W_cond_t rfl ?_
            refine W_seq ?_
            refine W_region ?_
            refine WL_q rfl (ev_assign rfl) ?_
            refine WL_nil ?_
            refine thenE_n ?_
            refine W_ret ?_
            refine thenE_r ?_
            refine ret1 rfl rfl ?_
            first | (exact ⟨rfl, hE⟩) | (exact (bneE hg54 (hr33.det1 hr25)).elim) | (exact absurd (hr33.det1 hr25) hp54) | (exact absurd (hr33.det1 hr25) (of_decide_eq_false hg54)) | (exact (bneE hg54 (hr33.det2 hr25)).elim) | (exact absurd (hr33.det2 hr25) hp54) | (exact absurd (hr33.det2 hr25) (of_decide_eq_false hg54)) | (exact (bneE hg54 (hr33.det3 hr25)).elim) | (exact absurd (hr33.det3 hr25) hp54) | (exact absurd (hr33.det3 hr25) (of_decide_eq_false hg54)) | (exact (tfX hg54).elim) | (exact (decF hg54).elim) | (exfalso; omega)
          · have hp54 := of_decide_eq_false hg54
            refine WL_qg rfl rfl hg54 rfl (ev_loads st29 sz29 rfl (cellsB hB9) rfl) ?_
            refine WL_qg rfl rfl hg54 rfl (ev_loads st29 sz29 rfl (cellsB hB6) rfl) ?_
            refine WL_mg rfl rfl hg54 rfl (ev_call rfl (eqNetwork_spec _ _ U25 _ hO33.is hN25 (by omega))) ?_
            rintro _ w58 ⟨rfl, hE58⟩
            have hz58 := hE58.size
            replace hE := hE.trans hE58
            replace hA := hA.ext hE58
            replace hB2 := hB2.ext hE58
            replace hF23 := hF23.ext hE58
            replace hN23 := hN23.ext hE58
            replace hN25 := hN25.ext hE58
            replace hB6 := hB6.ext hE58
            replace hB8 := hB8.ext hE58
            replace hO33 := hO33.ext hE58
            replace hB9 := hB9.ext hE58
            replace hF47 := hF47.ext hE58
            replace hN47 := hN47.ext hE58
            refine WL_qg rfl rfl hg54 rfl (ev_not rfl) ?_
            refine WL_q rfl (ev_pick_f rfl hg54 rfl) ?_
            refine WL_q rfl (ev_move rfl) ?_
            refine WL_splitv (t := 61) rfl (fun hg59 => ?_) (fun hg59 => ?_)
            · have hg58 := not_true hg59
              refine WL_no rfl rfl hg59 rfl ?_
              refine WL_no rfl rfl hg59 rfl ?_
              refine WL_no rfl rfl hg59 rfl ?_
              refine WL_q rfl (ev_pick_t rfl hg59 rfl) ?_
              refine WL_nil ?_
              refine thenE_n ?_
              refine W_cond_t rfl ?_
              refine W_seq ?_
              refine W_region ?_
              refine WL_q rfl (ev_assign rfl) ?_
              refine WL_nil ?_
              refine thenE_n ?_
              refine W_ret ?_
              refine thenE_r ?_
              refine ret1 rfl rfl ?_
              first | (exact ⟨rfl, hE⟩) | (exact (bneE hg58 (hr33.det1 hr25)).elim) | (exact absurd (hr33.det1 hr25) hp58) | (exact absurd (hr33.det1 hr25) (of_decide_eq_false hg58)) | (exact (bneE hg58 (hr33.det2 hr25)).elim) | (exact absurd (hr33.det2 hr25) hp58) | (exact absurd (hr33.det2 hr25) (of_decide_eq_false hg58)) | (exact (bneE hg58 (hr33.det3 hr25)).elim) | (exact absurd (hr33.det3 hr25) hp58) | (exact absurd (hr33.det3 hr25) (of_decide_eq_false hg58)) | (exact (tfX hg58).elim) | (exact (decF hg58).elim) | (exfalso; omega)
            · have hg58 := not_false hg59
              refine WL_qg rfl rfl hg59 rfl (ev_move rfl) ?_
              refine WL_qg rfl rfl hg59 rfl (ev_move rfl) ?_
              refine WL_qg rfl rfl hg59 rfl (ev_neq_b Try.underlying4 rfl rfl) ?_
              refine WL_q rfl (ev_pick_f rfl hg59 rfl) ?_
              refine WL_nil ?_
              refine thenE_n ?_
              refine W_cond rfl (fun hg64 => ?_) (fun hg64 => ?_)
              · refine W_seq ?_
                refine W_region ?_
                refine WL_q rfl (ev_assign rfl) ?_
                refine WL_nil ?_
                refine thenE_n ?_
                refine W_ret ?_
                refine thenE_r ?_
                refine ret1 rfl rfl ?_
                first | (exact ⟨rfl, hE⟩) | (exact (bneE hg64 (hr33.det1 hr25)).elim) | (exact absurd (hr33.det1 hr25) hp64) | (exact absurd (hr33.det1 hr25) (of_decide_eq_false hg64)) | (exact (bneE hg64 (hr33.det2 hr25)).elim) | (exact absurd (hr33.det2 hr25) hp64) | (exact absurd (hr33.det2 hr25) (of_decide_eq_false hg64)) | (exact (bneE hg64 (hr33.det3 hr25)).elim) | (exact absurd (hr33.det3 hr25) hp64) | (exact absurd (hr33.det3 hr25) (of_decide_eq_false hg64)) | (exact (tfX hg64).elim) | (exact (decF hg64).elim) | (exfalso; omega)
              · refine W_skip ?_
                refine thenE_n ?_
                refine W_seq ?_
                refine W_region ?_
                refine WL_q rfl (ev_assign rfl) ?_
                refine WL_nil ?_
                refine thenE_n ?_
                refine W_seq ?_
                refine W_region ?_
                refine WL_q rfl (ev_loads st29 sz29 rfl (cellsB hB9) rfl) ?_
                refine WL_q rfl (ev_move rfl) ?_
                refine WL_m rfl (ev_call rfl (markNetwork_net _ U25 _ _ hO33 (by omega) (by omega) (by omega))) ?_
                rintro _ w68 ⟨rfl, hO68, hK68⟩
                have hz68 := hK68.size
                have hR68 := hK68
                replace hE := hE.rg hR68 (by omega)
                replace hA := hA.rg hR68 (by omega)
                replace hB2 := hB2.rg hR68 (by omega)
                replace hF23 := hF23.rg hR68 (by omega)
                replace hN23 := hN23.rg hR68 (by omega)
                replace hN25 := hN25.rg hR68 (by omega)
                replace hB6 := hB6.rg hR68 (by omega)
                replace hB8 := hB8.rg hR68 (by omega)
                replace hB9 := hB9.rg hR68 (by omega)
                replace hF47 := hF47.rg hR68 (by omega)
                replace hN47 := hN47.rg hR68 (by omega)
                replace hO33 := hO68
                have hmk : 1 ≤ mkT 1 U25 := by unfold mkT; omega
                refine WL_q rfl (ev_assign rfl) ?_
                refine WL_nil ?_
                refine thenE_n ?_
                refine W_seq ?_
                refine W_region ?_
                refine WL_q rfl (ev_assign rfl) ?_
                refine WL_nil ?_
                refine thenE_n ?_
                refine W_seq ?_
                refine W_region ?_
                refine WL_q rfl (ev_loads st29 sz29 rfl (cellsB hB9) rfl) ?_
                refine WL_q rfl (ev_move rfl) ?_
                refine WL_m rfl (ev_call rfl (heldNetwork_net _ U25 _ _ hO33.is (by omega) (by omega))) ?_
                rintro _ w71 ⟨rfl, hE71⟩
                have hz71 := hE71.size
                replace hE := hE.trans hE71
                replace hA := hA.ext hE71
                replace hB2 := hB2.ext hE71
                replace hF23 := hF23.ext hE71
                replace hN23 := hN23.ext hE71
                replace hN25 := hN25.ext hE71
                replace hB6 := hB6.ext hE71
                replace hB8 := hB8.ext hE71
                replace hO33 := hO33.ext hE71
                replace hB9 := hB9.ext hE71
                replace hF47 := hF47.ext hE71
                replace hN47 := hN47.ext hE71
                refine WL_q rfl (ev_assign rfl) ?_
                refine WL_nil ?_
                refine thenE_n ?_
                refine W_seq ?_
                refine W_seq ?_
                refine W_region ?_
                refine WL_q rfl (ev_move rfl) ?_
                refine WL_q rfl (ev_lss rfl rfl) ?_
                refine WL_nil ?_
                refine thenE_n ?_
                refine W_cond rfl (fun hg73 => ?_) (fun hg73 => ?_)
                · have hp73 := of_decide_eq_true hg73
                  refine W_seq ?_
                  refine W_region ?_
                  refine WL_q rfl (ev_assign rfl) ?_
                  refine WL_nil ?_
                  refine thenE_n ?_
                  refine W_ret ?_
                  refine thenE_r ?_
                  refine ret1 rfl rfl ?_
                  first | (exact ⟨rfl, hE⟩) | (exact (bneE hg73 (hr33.det1 hr25)).elim) | (exact absurd (hr33.det1 hr25) hp73) | (exact absurd (hr33.det1 hr25) (of_decide_eq_false hg73)) | (exact (bneE hg73 (hr33.det2 hr25)).elim) | (exact absurd (hr33.det2 hr25) hp73) | (exact absurd (hr33.det2 hr25) (of_decide_eq_false hg73)) | (exact (bneE hg73 (hr33.det3 hr25)).elim) | (exact absurd (hr33.det3 hr25) hp73) | (exact absurd (hr33.det3 hr25) (of_decide_eq_false hg73)) | (exact (tfX hg73).elim) | (exact (decF hg73).elim) | (exfalso; omega)
                · have hp73 := of_decide_eq_false hg73
                  refine W_skip ?_
                  refine thenE_n ?_
                  refine W_seq ?_
                  refine W_seq ?_
                  refine W_region ?_
                  refine WL_q rfl (ev_move rfl) ?_
                  refine WL_q rfl (ev_move rfl) ?_
                  refine WL_q rfl (ev_neq rfl rfl) ?_
                  refine WL_nil ?_
                  refine thenE_n ?_
                  refine W_cond rfl (fun hg76 => ?_) (fun hg76 => ?_)
                  · have hp76 := of_decide_eq_true hg76
                    refine W_seq ?_
                    refine W_region ?_
                    refine WL_q rfl (ev_assign rfl) ?_
                    refine WL_nil ?_
                    refine thenE_n ?_
                    refine W_ret ?_
                    refine thenE_r ?_
                    refine ret1 rfl rfl ?_
                    first | (exact ⟨rfl, hE⟩) | (exact (bneE hg76 (hr33.det1 hr25)).elim) | (exact absurd (hr33.det1 hr25) hp76) | (exact absurd (hr33.det1 hr25) (of_decide_eq_false hg76)) | (exact (bneE hg76 (hr33.det2 hr25)).elim) | (exact absurd (hr33.det2 hr25) hp76) | (exact absurd (hr33.det2 hr25) (of_decide_eq_false hg76)) | (exact (bneE hg76 (hr33.det3 hr25)).elim) | (exact absurd (hr33.det3 hr25) hp76) | (exact absurd (hr33.det3 hr25) (of_decide_eq_false hg76)) | (exact (tfX hg76).elim) | (exact (decF hg76).elim) | (exfalso; omega)
                  · have hp76 := of_decide_eq_false hg76
                    refine W_skip ?_
                    refine thenE_n ?_
                    refine W_seq ?_
                    refine W_region ?_
                    refine WL_q rfl (ev_loads st25 sz25 rfl (cellsB hB2) rfl) ?_
                    refine WL_m rfl (ev_call rfl (toNetwork_spec _ A _ hA (by omega) (by omega))) ?_
                    rintro _ w79 ⟨h79, rfl, hF79, hE79⟩
                    have hz79 := hE79.size
                    replace hE := hE.trans hE79
                    replace hA := hA.ext hE79
                    replace hB2 := hB2.ext hE79
                    replace hF23 := hF23.ext hE79
                    replace hN23 := hN23.ext hE79
                    replace hN25 := hN25.ext hE79
                    replace hB6 := hB6.ext hE79
                    replace hB8 := hB8.ext hE79
                    replace hO33 := hO33.ext hE79
                    replace hB9 := hB9.ext hE79
                    replace hF47 := hF47.ext hE79
                    replace hN47 := hN47.ext hE79
                    have hN79 := hF79.is
                    refine WL_q rfl (ev_move rfl) ?_
                    refine WL_m rfl (ev_call rfl (PowerOf_spec _ A _ _ hN79 (by omega) (by omega))) ?_
                    rintro _ w81 ⟨h81, U81, q81, rfl, hr81, hO81, hl81, hE81⟩
                    have hz81 := hE81.size
                    replace hE := hE.trans hE81
                    replace hA := hA.ext hE81
                    replace hB2 := hB2.ext hE81
                    replace hF23 := hF23.ext hE81
                    replace hN23 := hN23.ext hE81
                    replace hN25 := hN25.ext hE81
                    replace hB6 := hB6.ext hE81
                    replace hB8 := hB8.ext hE81
                    replace hO33 := hO33.ext hE81
                    replace hB9 := hB9.ext hE81
                    replace hF47 := hF47.ext hE81
                    replace hN47 := hN47.ext hE81
                    replace hF79 := hF79.ext hE81
                    replace hN79 := hN79.ext hE81
                    refine WL_q rfl (ev_move rfl) ?_
                    refine WL_q rfl (ev_extract rfl rfl) ?_
                    refine WL_q rfl (ev_extract rfl rfl) ?_
                    refine WL_m rfl (ev_alloc zr29) ?_
                    rintro _ w14 ⟨rfl, hN14⟩
                    have hz14 := hN14.size
                    replace hE := hE.trans hN14.ext
                    replace hA := hA.ext hN14.ext
                    replace hB2 := hB2.ext hN14.ext
                    replace hF23 := hF23.ext hN14.ext
                    replace hN23 := hN23.ext hN14.ext
                    replace hN25 := hN25.ext hN14.ext
                    replace hB6 := hB6.ext hN14.ext
                    replace hB8 := hB8.ext hN14.ext
                    replace hO33 := hO33.ext hN14.ext
                    replace hB9 := hB9.ext hN14.ext
                    replace hF47 := hF47.ext hN14.ext
                    replace hN47 := hN47.ext hN14.ext
                    replace hF79 := hF79.ext hN14.ext
                    replace hN79 := hN79.ext hN14.ext
                    replace hO81 := hO81.ext hN14.ext
                    have hB14 : Blk w14 _ _ [_, _, _] := hN14.blk
                    refine WL_s (ev_stores sz29 rfl rfl rfl (by simp [Value.oneCell']) hB14 (by simp)) ?_
                    rintro _ w24_8 hS24_8
                    have hz24_8 := hS24_8.size
                    replace hE := hE.sto hS24_8 (by omega)
                    replace hA := hA.sto hS24_8 (by omega)
                    replace hB2 := hB2.sto hS24_8 (by omega)
                    replace hF23 := hF23.sto hS24_8 (by omega)
                    replace hN23 := hN23.sto hS24_8 (by omega)
                    replace hN25 := hN25.sto hS24_8 (by omega)
                    replace hB6 := hB6.sto hS24_8 (by omega)
                    replace hB8 := hB8.sto hS24_8 (by omega)
                    replace hO33 := hO33.sto hS24_8 (by omega)
                    replace hB9 := hB9.sto hS24_8 (by omega)
                    replace hF47 := hF47.sto hS24_8 (by omega)
                    replace hN47 := hN47.sto hS24_8 (by omega)
                    replace hF79 := hF79.sto hS24_8 (by omega)
                    replace hN79 := hN79.sto hS24_8 (by omega)
                    replace hO81 := hO81.sto hS24_8 (by omega)
                    replace hB14 : Blk w24_8 _ _ [_, _, _] := hS24_8.blk
                    refine WL_q rfl (ev_assign rfl) ?_
                    refine WL_nil ?_
                    refine thenE_n ?_
                    refine W_seq ?_
                    refine W_seq ?_
                    refine W_region ?_
                    refine WL_q rfl (ev_loads st29 sz29 rfl (cellsB hB14) rfl) ?_
                    refine WL_q rfl (ev_loads st29 sz29 rfl (cellsB hB6) rfl) ?_
                    have eU86 := hr25.det1 hr81
                    subst eU86
                    refine WL_m rfl (ev_call rfl (eqNetwork_spec _ _ U25 _ hO81.is hN25 (by omega))) ?_
                    rintro _ w86 ⟨rfl, hE86⟩
                    have hz86 := hE86.size
                    replace hE := hE.trans hE86
                    replace hA := hA.ext hE86
                    replace hB2 := hB2.ext hE86
                    replace hF23 := hF23.ext hE86
                    replace hN23 := hN23.ext hE86
                    replace hN25 := hN25.ext hE86
                    replace hB6 := hB6.ext hE86
                    replace hB8 := hB8.ext hE86
                    replace hO33 := hO33.ext hE86
                    replace hB9 := hB9.ext hE86
                    replace hF47 := hF47.ext hE86
                    replace hN47 := hN47.ext hE86
                    replace hF79 := hF79.ext hE86
                    replace hN79 := hN79.ext hE86
                    replace hO81 := hO81.ext hE86
                    replace hB14 := hB14.ext hE86
                    refine WL_q rfl (ev_not rfl) ?_
                    refine WL_q rfl (ev_move rfl) ?_
                    refine WL_splitv (t := 88) rfl (fun hg87 => ?_) (fun hg87 => ?_)
                    · have hg86 := not_true hg87
                      refine WL_no rfl rfl hg87 rfl ?_
                      refine WL_no rfl rfl hg87 rfl ?_
                      refine WL_no rfl rfl hg87 rfl ?_
                      refine WL_q rfl (ev_pick_t rfl hg87 rfl) ?_
                      refine WL_nil ?_
                      refine thenE_n ?_
                      refine W_cond_t rfl ?_
                      refine W_seq ?_
                      refine W_region ?_
                      refine WL_q rfl (ev_assign rfl) ?_
                      refine WL_nil ?_
                      refine thenE_n ?_
                      refine W_ret ?_
                      refine thenE_r ?_
                      refine ret1 rfl rfl ?_
                      first | (exact ⟨rfl, hE⟩) | (exact (bneE hg86 (hr81.det1 hr25)).elim) | (exact absurd (hr81.det1 hr25) hp86) | (exact absurd (hr81.det1 hr25) (of_decide_eq_false hg86)) | (exact (bneE hg86 (hr81.det2 hr25)).elim) | (exact absurd (hr81.det2 hr25) hp86) | (exact absurd (hr81.det2 hr25) (of_decide_eq_false hg86)) | (exact (bneE hg86 (hr81.det3 hr25)).elim) | (exact absurd (hr81.det3 hr25) hp86) | (exact absurd (hr81.det3 hr25) (of_decide_eq_false hg86)) | (exact (bneE hg86 (hr33.det1 hr25)).elim) | (exact absurd (hr33.det1 hr25) hp86) | (exact absurd (hr33.det1 hr25) (of_decide_eq_false hg86)) | (exact (bneE hg86 (hr33.det2 hr25)).elim) | (exact absurd (hr33.det2 hr25) hp86) | (exact absurd (hr33.det2 hr25) (of_decide_eq_false hg86)) | (exact (bneE hg86 (hr33.det3 hr25)).elim) | (exact absurd (hr33.det3 hr25) hp86) | (exact absurd (hr33.det3 hr25) (of_decide_eq_false hg86)) | (exact (tfX hg86).elim) | (exact (decF hg86).elim) | (exfalso; omega)
                    · have hg86 := not_false hg87
                      refine WL_qg rfl rfl hg87 rfl (ev_move rfl) ?_
                      refine WL_qg rfl rfl hg87 rfl (ev_move rfl) ?_
                      refine WL_qg rfl rfl hg87 rfl (ev_neq_b Try.underlying4 rfl rfl) ?_
                      refine WL_q rfl (ev_pick_f rfl hg87 rfl) ?_
                      refine WL_nil ?_
                      refine thenE_n ?_
                      refine W_cond rfl (fun hg91 => ?_) (fun hg91 => ?_)
                      · refine W_seq ?_
                        refine W_region ?_
                        refine WL_q rfl (ev_assign rfl) ?_
                        refine WL_nil ?_
                        refine thenE_n ?_
                        refine W_ret ?_
                        refine thenE_r ?_
                        refine ret1 rfl rfl ?_
                        first | (exact ⟨rfl, hE⟩) | (exact (bneE hg91 (hr81.det1 hr25)).elim) | (exact absurd (hr81.det1 hr25) hp91) | (exact absurd (hr81.det1 hr25) (of_decide_eq_false hg91)) | (exact (bneE hg91 (hr81.det2 hr25)).elim) | (exact absurd (hr81.det2 hr25) hp91) | (exact absurd (hr81.det2 hr25) (of_decide_eq_false hg91)) | (exact (bneE hg91 (hr81.det3 hr25)).elim) | (exact absurd (hr81.det3 hr25) hp91) | (exact absurd (hr81.det3 hr25) (of_decide_eq_false hg91)) | (exact (bneE hg91 (hr33.det1 hr25)).elim) | (exact absurd (hr33.det1 hr25) hp91) | (exact absurd (hr33.det1 hr25) (of_decide_eq_false hg91)) | (exact (bneE hg91 (hr33.det2 hr25)).elim) | (exact absurd (hr33.det2 hr25) hp91) | (exact absurd (hr33.det2 hr25) (of_decide_eq_false hg91)) | (exact (bneE hg91 (hr33.det3 hr25)).elim) | (exact absurd (hr33.det3 hr25) hp91) | (exact absurd (hr33.det3 hr25) (of_decide_eq_false hg91)) | (exact (tfX hg91).elim) | (exact (decF hg91).elim) | (exfalso; omega)
                      · refine W_skip ?_
                        refine thenE_n ?_
                        refine W_seq ?_
                        refine W_region ?_
                        refine WL_q rfl (ev_assign rfl) ?_
                        refine WL_nil ?_
                        refine thenE_n ?_
                        refine W_seq ?_
                        refine W_region ?_
                        refine WL_q rfl (ev_loads st29 sz29 rfl (cellsB hB9) rfl) ?_
                        refine WL_q rfl (ev_move rfl) ?_
                        refine WL_m rfl (ev_call rfl (heldNetwork_net _ U25 _ _ hO33.is (by omega) (by omega))) ?_
                        rintro _ w95 ⟨rfl, hE95⟩
                        have hz95 := hE95.size
                        replace hE := hE.trans hE95
                        replace hA := hA.ext hE95
                        replace hB2 := hB2.ext hE95
                        replace hF23 := hF23.ext hE95
                        replace hN23 := hN23.ext hE95
                        replace hN25 := hN25.ext hE95
                        replace hB6 := hB6.ext hE95
                        replace hB8 := hB8.ext hE95
                        replace hO33 := hO33.ext hE95
                        replace hB9 := hB9.ext hE95
                        replace hF47 := hF47.ext hE95
                        replace hN47 := hN47.ext hE95
                        replace hF79 := hF79.ext hE95
                        replace hN79 := hN79.ext hE95
                        replace hO81 := hO81.ext hE95
                        replace hB14 := hB14.ext hE95
                        refine WL_q rfl (ev_assign rfl) ?_
                        refine WL_nil ?_
                        refine thenE_n ?_
                        refine W_seq ?_
                        refine W_seq ?_
                        refine W_region ?_
                        refine WL_q rfl (ev_move rfl) ?_
                        refine WL_q rfl (ev_lss rfl rfl) ?_
                        refine WL_nil ?_
                        refine thenE_n ?_
                        refine W_cond rfl (fun hg97 => ?_) (fun hg97 => ?_)
                        · have hp97 := of_decide_eq_true hg97
                          refine W_seq ?_
                          refine W_region ?_
                          refine WL_q rfl (ev_assign rfl) ?_
                          refine WL_nil ?_
                          refine thenE_n ?_
                          refine W_ret ?_
                          refine thenE_r ?_
                          refine ret1 rfl rfl ?_
                          first | (exact ⟨rfl, hE⟩) | (exact (bneE hg97 (hr81.det1 hr25)).elim) | (exact absurd (hr81.det1 hr25) hp97) | (exact absurd (hr81.det1 hr25) (of_decide_eq_false hg97)) | (exact (bneE hg97 (hr81.det2 hr25)).elim) | (exact absurd (hr81.det2 hr25) hp97) | (exact absurd (hr81.det2 hr25) (of_decide_eq_false hg97)) | (exact (bneE hg97 (hr81.det3 hr25)).elim) | (exact absurd (hr81.det3 hr25) hp97) | (exact absurd (hr81.det3 hr25) (of_decide_eq_false hg97)) | (exact (bneE hg97 (hr33.det1 hr25)).elim) | (exact absurd (hr33.det1 hr25) hp97) | (exact absurd (hr33.det1 hr25) (of_decide_eq_false hg97)) | (exact (bneE hg97 (hr33.det2 hr25)).elim) | (exact absurd (hr33.det2 hr25) hp97) | (exact absurd (hr33.det2 hr25) (of_decide_eq_false hg97)) | (exact (bneE hg97 (hr33.det3 hr25)).elim) | (exact absurd (hr33.det3 hr25) hp97) | (exact absurd (hr33.det3 hr25) (of_decide_eq_false hg97)) | (exact (tfX hg97).elim) | (exact (decF hg97).elim) | (exfalso; omega)
                        · have hp97 := of_decide_eq_false hg97
                          refine W_skip ?_
                          refine thenE_n ?_
                          refine W_seq ?_
                          refine W_seq ?_
                          refine W_region ?_
                          refine WL_q rfl (ev_move rfl) ?_
                          refine WL_q rfl (ev_move rfl) ?_
                          refine WL_q rfl (ev_neq rfl rfl) ?_
                          refine WL_nil ?_
                          refine thenE_n ?_
                          refine W_cond rfl (fun hg100 => ?_) (fun hg100 => ?_)
                          · have hp100 := of_decide_eq_true hg100
                            refine W_seq ?_
                            refine W_region ?_
                            refine WL_q rfl (ev_assign rfl) ?_
                            refine WL_nil ?_
                            refine thenE_n ?_
                            refine W_ret ?_
                            refine thenE_r ?_
                            refine ret1 rfl rfl ?_
                            first | (exact ⟨rfl, hE⟩) | (exact (bneE hg100 (hr81.det1 hr25)).elim) | (exact absurd (hr81.det1 hr25) hp100) | (exact absurd (hr81.det1 hr25) (of_decide_eq_false hg100)) | (exact (bneE hg100 (hr81.det2 hr25)).elim) | (exact absurd (hr81.det2 hr25) hp100) | (exact absurd (hr81.det2 hr25) (of_decide_eq_false hg100)) | (exact (bneE hg100 (hr81.det3 hr25)).elim) | (exact absurd (hr81.det3 hr25) hp100) | (exact absurd (hr81.det3 hr25) (of_decide_eq_false hg100)) | (exact (bneE hg100 (hr33.det1 hr25)).elim) | (exact absurd (hr33.det1 hr25) hp100) | (exact absurd (hr33.det1 hr25) (of_decide_eq_false hg100)) | (exact (bneE hg100 (hr33.det2 hr25)).elim) | (exact absurd (hr33.det2 hr25) hp100) | (exact absurd (hr33.det2 hr25) (of_decide_eq_false hg100)) | (exact (bneE hg100 (hr33.det3 hr25)).elim) | (exact absurd (hr33.det3 hr25) hp100) | (exact absurd (hr33.det3 hr25) (of_decide_eq_false hg100)) | (exact (tfX hg100).elim) | (exact (decF hg100).elim) | (exfalso; omega)
                          · have hp100 := of_decide_eq_false hg100
                            refine W_skip ?_
                            refine thenE_n ?_
                            refine W_seq ?_
                            refine W_region ?_
                            refine WL_q rfl (ev_assign rfl) ?_
                            refine WL_nil ?_
                            refine thenE_n ?_
                            refine W_ret ?_
                            refine ret1 rfl rfl ?_
                            first | (exact ⟨rfl, hE⟩) | (exact (bneE hg100 (hr81.det1 hr25)).elim) | (exact absurd (hr81.det1 hr25) hp100) | (exact absurd (hr81.det1 hr25) (of_decide_eq_false hg100)) | (exact (bneE hg100 (hr81.det2 hr25)).elim) | (exact absurd (hr81.det2 hr25) hp100) | (exact absurd (hr81.det2 hr25) (of_decide_eq_false hg100)) | (exact (bneE hg100 (hr81.det3 hr25)).elim) | (exact absurd (hr81.det3 hr25) hp100) | (exact absurd (hr81.det3 hr25) (of_decide_eq_false hg100)) | (exact (bneE hg100 (hr33.det1 hr25)).elim) | (exact absurd (hr33.det1 hr25) hp100) | (exact absurd (hr33.det1 hr25) (of_decide_eq_false hg100)) | (exact (bneE hg100 (hr33.det2 hr25)).elim) | (exact absurd (hr33.det2 hr25) hp100) | (exact absurd (hr33.det2 hr25) (of_decide_eq_false hg100)) | (exact (bneE hg100 (hr33.det3 hr25)).elim) | (exact absurd (hr33.det3 hr25) hp100) | (exact absurd (hr33.det3 hr25) (of_decide_eq_false hg100)) | (exact (tfX hg100).elim) | (exact (decF hg100).elim) | (exfalso; omega)

end Go.Proofs.Ytmdmpapdjgcchaa
