/- Contracts of impl.network, spec.neIf and PowerOf, of the program and of the reference; the walk of FnExactPowerOf. -/
import Derived.Test.YtladejfcplpnaaaQuot2
import Derived.Test.YtladejfcplpnaaaDist
namespace Go.Proofs.Ytladejfcplpnaaa
open Go Go.RowKit

/-- The first i rows as f has them, the others as they were. -/
def mixF {α : Type} (f : Nat → List α) (R : List (List α)) (i : Nat) : List (List α) := (List.range R.length).map fun u => if u < i then f u else R.getD u []
section
variable {α : Type} {f : Nat → List α} {R : List (List α)} {i : Nat}
@[simp] theorem mixF_len : (mixF f R i).length = R.length := by simp [mixF]
theorem mixF_zero : mixF f R 0 = R := by
  refine List.ext_getElem (by simp [mixF]) fun j h1 h2 => ?_
  simp only [mixF, List.getElem_map, List.getElem_range, Nat.not_lt_zero, if_false]; exact getD_eq h2
theorem mixF_row (h : i < R.length) {h2 : i < (mixF f R i).length} : (mixF f R i)[i] = R[i] := by simp only [mixF, List.getElem_map, List.getElem_range, Nat.lt_irrefl, if_false]; exact getD_eq h
theorem mixF_set (h : i < R.length) : (mixF f R i).set i (f i) = mixF f R (i + 1) := by
  refine List.ext_getElem (by simp [mixF]) fun j h1 h2 => ?_
  by_cases hj : i = j
  · subst hj; simp [mixF]
  · rw [List.getElem_set_ne hj]
    simp only [mixF, List.getElem_map, List.getElem_range]
    by_cases h9 : j < i
    · rw [if_pos h9, if_pos (by omega)]
    · rw [if_neg h9, if_neg (by omega)]
theorem mixF_full (h : R.length ≤ i) : mixF f R i = (List.range R.length).map f := by
  refine List.map_congr_left fun u hu => ?_
  have := List.mem_range.1 hu
  rw [if_pos (by omega)]
end
/-- The nodes at most r away from a node, the node itself left out. -/
def nearL (A : Net) (r : Int) (v : Nat) : List Int := ballN (bfs A.ends (v : Int)) 1 r A.ends.length
theorem near_open {A : Net} {r : Int} {i : Nat} (h : i < A.ends.length) : mixF (nearL A r) (List.replicate A.ends.length []) i = (mixF (nearL A r) (List.replicate A.ends.length []) i).set i (ballN (bfs A.ends (i : Int)) 1 r 0) := by
  have h2 : i < (mixF (nearL A r) (List.replicate A.ends.length []) i).length := by simpa [mixF_len] using h
  have e : (mixF (nearL A r) (List.replicate A.ends.length []) i)[i] = ballN (bfs A.ends (i : Int)) 1 r 0 := by rw [mixF_row (by simpa using h)]; simp [ballN_zero]
  rw [← e, List.set_getElem_self]
def nearA (A : Net) (r : Int) : List (List Int) := (List.range A.ends.length).map (nearL A r)
def powR (A : Net) (r : Int) (v : Nat) : List (Int × Int) := (nearL A r v).map fun w => (w, idxF (fun y => decide ((v : Int) = y)) (nearL A r w.toNat))
def powN (A : Net) (r : Int) : Net := ⟨(List.range A.ends.length).map (powR A r), A.ids, A.inputs⟩
theorem nearA_len (A : Net) (r : Int) : (nearA A r).length = A.ends.length := by simp [nearA]
theorem nearA_at {A : Net} {r : Int} {v : Nat} {h : v < (nearA A r).length} : (nearA A r)[v] = nearL A r v := by simp [nearA]
theorem powR_len (A : Net) (r : Int) (v : Nat) : (powR A r v).length = (nearL A r v).length := by simp [powR]
theorem powR_take {A : Net} {r x : Int} {i k : Nat} (hk : k < (nearL A r i).length) (hx : (nearL A r i)[k] = x) : (powR A r i).take k ++ [(x, idxF (fun y => decide ((i : Int) = y)) (nearL A r x.toNat))] = (powR A r i).take (k + 1) := by
  have h : k < (powR A r i).length := by rw [powR_len]; exact hk
  rw [List.take_succ_eq_append_getElem h]
  simp only [powR, List.getElem_map, hx]
theorem near_mem {A : Net} {r : Int} {v : Nat} {x : Int} (h : x ∈ nearL A r v) : 0 ≤ x ∧ x.toNat < A.ends.length ∧ 1 ≤ (bfs A.ends (v : Int)).getD x.toNat 0 ∧ (bfs A.ends (v : Int)).getD x.toNat 0 ≤ r := by
  obtain ⟨u, hu, rfl⟩ := List.mem_map.1 h
  obtain ⟨h1, h2⟩ := List.mem_filter.1 hu
  have h1 := List.mem_range.1 h1
  rw [inB_eq, inR_true] at h2
  simp only [Int.toNat_natCast]
  exact ⟨by omega, h1, h2.1, h2.2⟩
theorem mem_nearP {A : Net} {r : Int} {v u : Nat} (hu : u < A.ends.length) (h : 1 ≤ (bfs A.ends (v : Int)).getD u 0 ∧ (bfs A.ends (v : Int)).getD u 0 ≤ r) : (u : Int) ∈ nearL A r v :=
  List.mem_map.2 ⟨u, List.mem_filter.2 ⟨List.mem_range.2 hu, by rw [inB_eq, inR_true]; exact h⟩, rfl⟩
theorem bfs_sym {A : Net} (hk : NOk A) {u v : Nat} (hu : u < A.ends.length) (hv : v < A.ends.length) (h : 0 ≤ (bfs A.ends (v : Int)).getD u 0) : (bfs A.ends (u : Int)).getD v 0 = (bfs A.ends (v : Int)).getD u 0 := by
  have hE := hk.endsOk
  have hS := hk.sym
  have h1 := (bfs_walk hE (by omega) (by omega) hu h).symm hE hS
  have h2 := bfs_least hE (by omega) (by omega) h1
  simp only [Int.toNat_natCast] at h2
  have h3 := (bfs_walk hE (by omega) (by omega) hv h2.1).symm hE hS
  have h4 := bfs_least hE (by omega) (by omega) h3
  simp only [Int.toNat_natCast] at h4
  omega
theorem near_sym {A : Net} (hk : NOk A) {r x : Int} {v : Nat} (hv : v < A.ends.length) (h : x ∈ nearL A r v) : (v : Int) ∈ nearL A r x.toNat := by
  obtain ⟨h1, h2, h3, h4⟩ := near_mem h
  have hs := bfs_sym hk (u := x.toNat) (v := v) h2 hv (by omega)
  exact mem_nearP hv (by omega)
theorem near_le (A : Net) (r : Int) (v : Nat) : (nearL A r v).length ≤ A.ends.length := ballN_len _ _ _ _
theorem pow_tot {A : Net} {r : Int} (h : NOk A) : totN (powN A r) ≤ 1048576 := by
  have h1 : ∀ x ∈ (powN A r).ends, x.length ≤ 40 := by
    intro x hx
    obtain ⟨v, _, rfl⟩ := List.mem_map.1 (show x ∈ (List.range A.ends.length).map (powR A r) from hx)
    rw [powR_len]
    have := near_le A r v
    have := h.nodes
    omega
  have h2 := totL_bd h1
  have h3 : (powN A r).ends.length = A.ends.length := by simp [powN]
  have h4 : (powN A r).inputs.length = A.inputs.length := rfl
  have h5 : (powN A r).ids.length = A.ids.length := rfl
  have h6 := h.nodes
  have h7 := h.inLen
  have h8 : A.ids.length ≤ 40 := by
    rcases h.ids with h1 | h1
    · omega
    · have := h1.1; omega
  unfold totN; omega
/-- The rows that a loop fills: row i lies in a block from m on, from j on no row lies anywhere yet. -/
def NR {α : Type} (f : α → List Value) (sz l hi : Nat) (w : World) (E T : TypeId) (b i m j : Nat) (xss : List (List α)) : Prop :=
  ∃ vs, b < l ∧ Blk w b T ((vs.zip xss).map fun p => rowVal p.1 p.2) ∧ OwnAll f sz l hi w E vs xss ∧ (∀ q, (vs.getD i (none, 0)).1 = some q → m ≤ q.block) ∧ ∀ u, j ≤ u → (vs.getD u (none, 0)).1 = none
section
variable {α : Type} {f : α → List Value} {sz l hi : Nat} {w w' : World} {E T : TypeId} {b i m j : Nat} {xss : List (List α)}
theorem NR.ext (h : NR f sz l hi w E T b i m j xss) (k : Ext w w') : NR f sz l hi w' E T b i m j xss := by
  obtain ⟨vs, h0, h1, h2, h3, h4⟩ := h; exact ⟨vs, h0, h1.ext k, h2.ext k, h3, h4⟩
theorem NR.sto {g : Nat} {Ts : TypeId} {ds : List Value} (h : NR f sz l hi w E T b i m j xss) (k : Sto w w' g Ts ds) (hb : g < b ∨ (hi ≤ g ∧ b < g)) : NR f sz l hi w' E T b i m j xss := by
  obtain ⟨vs, h0, h1, h2, h3, h4⟩ := h; exact ⟨vs, h0, h1.keep k.keep (by show b ≠ g; omega), h2.keep k.keep fun q _ _ => by show q ≠ g; omega, h3, h4⟩
theorem NR.up {hi' : Nat} (h : NR f sz l hi w E T b i m j xss) (k : hi ≤ hi') : NR f sz l hi' w E T b i m j xss := by
  obtain ⟨vs, h0, h1, h2, h3, h4⟩ := h; exact ⟨vs, h0, h1, h2.mono (Nat.le_refl _) k, h3, h4⟩
theorem NR.to {yss : List (List α)} (h : NR f sz l hi w E T b i m j xss) (e : xss = yss) : NR f sz l hi w E T b i m j yss := e ▸ h
theorem NR.fwd {i' m' j' : Nat} (h : NR f sz l hi w E T b i m j xss) (k : j ≤ i') (k2 : j ≤ j') : NR f sz l hi w E T b i' m' j' xss := by
  obtain ⟨vs, h0, h1, h2, h3, h4⟩ := h; exact ⟨vs, h0, h1, h2, fun q hq => by rw [h4 i' k] at hq; simp at hq, fun u hu => h4 u (by omega)⟩
theorem NR.made {n : Nat} (h : Blk w b T (List.replicate n (.slice none 0 0))) (h1 : b < l) : NR f sz l hi w E T b i m j (List.replicate n []) :=
  ⟨List.replicate n (none, 0), h1, by simpa [List.zip_replicate, rowVal] using h, OwnAll.nils n, fun q hq => by
    by_cases k : i < n
    · rw [getD_eq (by simpa using k)] at hq; simp at hq
    · simp [List.getD, List.getElem?_eq_none (show (List.replicate n ((none : Option Addr), 0)).length ≤ i by simpa using k)] at hq, fun u _ => by
    by_cases k : u < n
    · rw [getD_eq (by simpa using k)]; simp
    · simp [List.getD, List.getElem?_eq_none (show (List.replicate n ((none : Option Addr), 0)).length ≤ u by simpa using k)]⟩
theorem NR.put {vs : List (Option Addr × Nat)} {w0 w1 : World} {Ts : TypeId} {ds : List Value} {a' : Option Addr} {n' c' y : Nat} {ys : List α} (hbl : b < l) (hOA : OwnAll f sz l hi w0 E vs xss) (hh : hi ≤ w0.heap.size) (hi1 : i < vs.length) (hm : ∀ q, (vs.getD i (none, 0)).1 = some q → m ≤ q.block) (hmw : m ≤ w0.heap.size) (hj : ∀ u, j ≤ u → (vs.getD u (none, 0)).1 = none) (hij : i < j)
    (k : Apd w0 w1 vs[i].1) (o : Own l w1 E sz a' n' c' (ys.flatMap f)) (hn : n' = ys.length) (fr : ∀ q, a' = some q → (∃ p, vs[i].1 = some p ∧ q.block = p.block) ∨ w0.heap.size ≤ q.block)
    (hS : Sto w1 w b Ts ds) (hy : y = i) (hB : Blk w b T (((vs.zip xss).map fun p => rowVal p.1 p.2).set y (.slice a' n' c'))) : NR f sz l w.heap.size w E T b i m j (xss.set i ys) := by
  subst hn hy
  have h1 := (hOA.step hi1 k o fr hh).keep hS.keep fun q h1 h2 => by show q ≠ b; omega
  refine ⟨vs.set y (a', c'), hbl, ?_, h1.mono (Nat.le_refl _) (by rw [hS.size]; exact Nat.le_refl _), fun q hq => ?_, fun u hu => ?_⟩
  · rw [zip_set, List.map_set]; exact hB
  · rw [getD_eq (by simpa using hi1), List.getElem_set_self] at hq
    rcases fr q hq with ⟨p, hp, e⟩ | h9
    · have := hm p (by rw [getD_eq hi1]; exact hp); omega
    · omega
  · have := hj u hu
    by_cases k9 : u < vs.length
    · rw [getD_eq (by simpa using k9), List.getElem_set_ne (by omega)]
      rw [getD_eq k9] at this; exact this
    · simp [List.getD, List.getElem?_eq_none (show (vs.set y (a', c')).length ≤ u by simpa using k9)]
/-- Row i is made empty. -/
theorem NR.clr {w0 : World} {Ts : TypeId} {ds : List Value} {vs : List (Option Addr × Nat)} {y m' : Nat} (hbl : b < l) (hOA : OwnAll f sz l hi w0 E vs xss) (hi1 : i < vs.length) (hh : hi ≤ w0.heap.size) (hS : Sto w0 w b Ts ds) (hy : y = i) (hB : Blk w b T (((vs.zip xss).map fun p => rowVal p.1 p.2).set y (.slice none 0 0))) : NR f sz l hi w E T b i m' vs.length (xss.set i []) := by
  subst hy
  have hOA' := hOA.keep hS.keep fun q h1 h2 => by show q ≠ b; omega
  refine ⟨vs.set y (none, 0), hbl, ?_, ⟨by simp [hOA.len], fun j h1 h2 => ?_, fun j h1 p hp => ?_, fun j1 j2 h1 h2 hne p q hp hq => ?_⟩, fun q hq => ?_, fun u hu => ?_⟩
  · rw [zip_set, List.map_set]; exact hB
  · simp only [List.length_set] at h1 h2
    by_cases e : y = j
    · subst e; simp only [List.getElem_set_self]; exact Own.nil _ _ _ _
    · simp only [List.getElem_set_ne e]; exact hOA'.own j h1 h2
  · simp only [List.length_set] at h1
    by_cases e : y = j
    · subst e; simp at hp
    · simp only [List.getElem_set_ne e] at hp; exact hOA.top j h1 p hp
  · simp only [List.length_set] at h1 h2
    by_cases e : y = j1
    · subst e; simp at hp
    · by_cases e2 : y = j2
      · subst e2; simp at hq
      · simp only [List.getElem_set_ne e] at hp
        simp only [List.getElem_set_ne e2] at hq
        exact hOA.sep j1 j2 h1 h2 hne p q hp hq
  · rw [getD_eq (by simpa using hi1), List.getElem_set_self] at hq; simp at hq
  · simp [List.getD, List.getElem?_eq_none (show (vs.set y ((none : Option Addr), 0)).length ≤ u by simpa using hu)]
end
theorem OwnH.app {l r p q n c sz : Nat} {w w' : World} {E : TypeId} {a : Option Addr} {cs : List Value} {a' : Option Addr} {lo' sz' n' c' : Nat} {E' : TypeId} {ds : List Value} (h : OwnH l r p q w E sz a n c cs) (k : Apd w w' a') (o : Own lo' w E' sz' a' n' c' ds) (hb : r ≤ lo') : OwnH l r p q w' E sz a n c cs :=
  ⟨h.1.keep k fun x hx => ⟨(h.1.block x hx).2, fun y hy => by have := (h.2 x hx).1; have := (o.block y hy).1; omega⟩, h.2⟩
theorem rowv_at9 {α : Type} {vs : List (Option Addr × Nat)} {xss : List (List α)} {i : Nat} (h : i < vs.length) (h2 : i < xss.length) : ((vs.zip xss).map fun p => rowVal p.1 p.2)[i]? = some (.slice vs[i].1 xss[i].length vs[i].2) := by
  rw [List.getElem?_eq_getElem (by simp; omega)]; simp [rowVal]
theorem Own.above {lo m n c sz : Nat} {w : World} {E : TypeId} {a : Option Addr} {cs : List Value} (h : Own lo w E sz a n c cs) (hm : ∀ q, a = some q → m ≤ q.block) : Own m w E sz a n c cs := by
  obtain ⟨h1, h2⟩ := h
  rcases h2 with h2 | ⟨g, d, arr, e, hlo, rest⟩
  · exact ⟨h1, .inl h2⟩
  injection e with e1 e2 e3
  subst e1 e3
  · exact ⟨h1, .inr ⟨g, _, arr, rfl, hm _ rfl, rest⟩⟩
theorem NR.any {α : Type} {f : α → List Value} {sz l hi : Nat} {w : World} {E T : TypeId} {b i m j i' : Nat} {xss : List (List α)} (h : NR f sz l hi w E T b i m j xss) : NR f sz l hi w E T b i' 0 j xss := by
  obtain ⟨vs, h0, h1, h2, h3, h4⟩ := h; exact ⟨vs, h0, h1, h2, fun q hq => Nat.zero_le _, h4⟩
theorem NR.ofCopy {l r b p : Nat} {w : World} {E F I : TypeId} {vs : List (Option Addr × Nat)} {h : NA} {A : Net} (c : CopyAt l r b p w E F I vs h A) : NR pairF 2 p r w E F b 0 0 A.ends.length A.ends :=
  ⟨vs, c.pos.2.1, c.out, c.rows, fun q _ => Nat.zero_le _, fun u hu => by
    have := c.rows.len
    simp [List.getD, List.getElem?_eq_none (show vs.length ≤ u by omega)]⟩
theorem NR.rows {lo hi l : Nat} {w : World} {E T : TypeId} {b i m j : Nat} {xss : List (List Int)} (h : NR intF 1 l hi w E T b i m j xss) (hl : l = b + 1) (h1 : lo ≤ b) (h2 : b < hi) : ORows intF 1 lo hi w E b xss := by
  subst hl; obtain ⟨vs, _, hB, hO, _, _⟩ := h; exact ⟨T, vs, h1, h2, hB, hO⟩
/-- A copied network whose rows were filled anew. -/
theorem NR.net {l b p r mm : Nat} {w : World} {E F I : TypeId} {i m j : Nat} {es : Ends} {ids inp : List Int} {a2 a3 : Option Addr} {c2 c3 n : Nat} (h : NR pairF 2 p r w E F b i m j es) (h1 : l ≤ b) (h3 : p ≤ r) (hn : n = es.length) (hc : es.length ≤ maxLen) (k1 : l ≤ mm) (k2 : mm ≤ p) (hI : OwnH l mm b (b + 1) w I 1 a2 ids.length c2 (ids.map VI)) (hP : OwnH mm p b (b + 1) w I 1 a3 inp.length c3 (inp.map VI)) : OwnNet l r w E I ⟨some ⟨b, 0, none⟩, n, a2, c2, a3, c3⟩ ⟨es, ids, inp⟩ := by
  subst hn
  obtain ⟨vs, hb, hB, hO, _, _⟩ := h
  have hl := hO.len
  refine ⟨F, vs, ⟨hl, Own.of_front (rest := []) (by rw [List.append_nil]; exact hB) h1 (Nat.le_refl _) hc (by simp [hl]) (by simp [hl]), fun q hq => ?_, fun i h4 h5 => ?_, hO.top, hO.sep, fun i h4 q x hq hx => ?_⟩, ⟨hI.1, fun x hx => ⟨by have := hI.2 x hx; omega, .inr (Nat.zero_le _)⟩⟩, ⟨hP.1.mono k1, fun x hx => ⟨by have := hP.2 x hx; omega, .inr (Nat.zero_le _)⟩⟩, fun x y hx hy => ?_, fun x y hx hy => ?_, fun x y hx hy => ?_, fun i h4 x y hx hy => ?_, fun i h4 x y hx hy => ?_⟩
  · cases hq; show b < r; omega
  · have := hO.own i h4 h5; rw [pairF_flat] at this; exact this.mono (by omega)
  · cases hq; have := ((hO.own i h4 (by omega)).block x hx).1; show b ≠ x.block; omega
  · have := hI.2 x hx; have := (hP.1.block y hy).1; omega
  · cases hx; have := hI.2 y hy; show b ≠ y.block; omega
  · cases hx; have := hP.2 y hy; show b ≠ y.block; omega
  · have := ((hO.own i h4 (by omega)).block x hx).1; have := hI.2 y hy; omega
  · have := ((hO.own i h4 (by omega)).block x hx).1; have := hP.2 y hy; omega

set_option maxRecDepth 100000 in
theorem network_spec {loA hiA : Nat} (nA : NA) (A : Net) (w : World) (hA : IsNet loA hiA w nA A) (hhiA : hiA ≤ w.heap.size) (hnA : totN A ≤ 1048576) :
    Fn Try.prog 37 #[netV nA A] w (fun o9 w' => ∃ h' U q, o9 = .tuple #[netV h' U, VB q] ∧ ((q = true ∧ NOk A ∧ h' = nA ∧ U = A) ∨ (q = false ∧ ¬ NOk A ∧ h' = ⟨none, 0, none, 0, none, 0⟩ ∧ U = ⟨[], [], []⟩)) ∧ Ext w w') := by
  have hqA := totL_len A.ends
  have hmA : totL A.ends + A.ids.length + A.inputs.length ≤ 1048576 := hnA
  have hE := Ext.refl w
  refine Fn_of Try.func37 rfl rfl (by kernel_rfl) rfl ?_
  refine W_seq ?_
  refine W_region ?_
  refine WL_m rfl (ev_box rfl) ?_
  rintro _ w1 ⟨rfl, hN1⟩
  have hz1 := hN1.size
  replace hE := hE.trans hN1.ext
  replace hA := hA.ext hN1.ext
  have hB1 : Blk w1 _ _ [_, _, _] := hN1.blk
  refine WL_m rfl (ev_alloc zr31) ?_
  rintro _ w2 ⟨rfl, hN2⟩
  have hz2 := hN2.size
  replace hE := hE.trans hN2.ext
  replace hA := hA.ext hN2.ext
  replace hB1 := hB1.ext hN2.ext
  have hB2 : Blk w2 _ _ [_, _, _] := hN2.blk
  refine WL_q rfl (ev_assign rfl) ?_
  refine WL_nil ?_
  refine thenE_n ?_
  refine W_seq ?_
  refine W_seq ?_
  refine W_region ?_
  refine WL_q rfl (ev_loads st31 sz31 rfl (cellsB hB1) rfl) ?_
  refine WL_m rfl (ev_call rfl (IsNetwork_spec _ A _ hA (by omega) (by omega))) ?_
  rintro _ w5 ⟨b5, rfl, hb5, hE5⟩
  have hz5 := hE5.size
  replace hE := hE.trans hE5
  replace hA := hA.ext hE5
  replace hB1 := hB1.ext hE5
  replace hB2 := hB2.ext hE5
  refine WL_q rfl (ev_not rfl) ?_
  refine WL_nil ?_
  refine thenE_n ?_
  refine W_cond rfl (fun hg6 => ?_) (fun hg6 => ?_)
  · have hg5 := not_true hg6
    have hp5 := ttN hb5 hg5
    refine W_seq ?_
    refine W_region ?_
    refine WL_q rfl (ev_buildP0 sn31_3 zr31 ) ?_
    refine WL_s (ev_stores sz31 rfl rfl rfl (by simp [Value.oneCell']) hB2 (by simp)) ?_
    rintro _ w2_1 hS2_1
    have hz2_1 := hS2_1.size
    replace hE := hE.sto hS2_1 (by omega)
    replace hA := hA.sto hS2_1 (by omega)
    replace hB1 := hB1.sto hS2_1 (by omega)
    replace hB2 : Blk w2_1 _ _ [_, _, _] := hS2_1.blk
    refine WL_q rfl (ev_assign rfl) ?_
    refine WL_nil ?_
    refine thenE_n ?_
    refine W_ret ?_
    refine thenE_r ?_
    refine retc2 rfl rfl st31 sz31 (cellsB hB2) rfl rfl ?_
    first | (exact ⟨⟨none, 0, none, 0, none, 0⟩, ⟨[], [], []⟩, false, rfl, .inr ⟨rfl, hp5, rfl, rfl⟩, hE⟩) | (exact ⟨nA, A, true, rfl, .inl ⟨rfl, hp5, rfl, rfl⟩, hE⟩)
  · have hg5 := not_false hg6
    have hp5 := hb5.1 hg5
    refine W_skip ?_
    refine thenE_n ?_
    refine W_seq ?_
    refine W_region ?_
    refine WL_q rfl (ev_loads st31 sz31 rfl (cellsB hB1) rfl) ?_
    refine WL_s (ev_stores sz31 rfl rfl rfl (by simp [Value.oneCell']) hB2 (by simp)) ?_
    rintro _ w3_1 hS3_1
    have hz3_1 := hS3_1.size
    replace hE := hE.sto hS3_1 (by omega)
    replace hA := hA.sto hS3_1 (by omega)
    replace hB1 := hB1.sto hS3_1 (by omega)
    replace hB2 : Blk w3_1 _ _ [_, _, _] := hS3_1.blk
    refine WL_q rfl (ev_assign rfl) ?_
    refine WL_nil ?_
    refine thenE_n ?_
    refine W_ret ?_
    refine retc2 rfl rfl st31 sz31 (cellsB hB2) rfl rfl ?_
    first | (exact ⟨⟨none, 0, none, 0, none, 0⟩, ⟨[], [], []⟩, false, rfl, .inr ⟨rfl, hp5, rfl, rfl⟩, hE⟩) | (exact ⟨nA, A, true, rfl, .inl ⟨rfl, hp5, rfl, rfl⟩, hE⟩)

theorem network_len {lo hi n n2 n3 : Nat} (a1 a2 a3 : Option Addr) (c1 c2 c3 : Nat) (A : Net) (w : World) (e1 : A.ends.length = n) (e2 : A.ids.length = n2) (e3 : A.inputs.length = n3) (hA : IsNet lo hi w ⟨a1, c1, a2, c2, a3, c3⟩ A) (hhi : hi ≤ w.heap.size) (hn : totN A ≤ 1048576) :
    Fn Try.prog 37 #[.agg #[.slice a1 n c1, .slice a2 n2 c2, .slice a3 n3 c3]] w (fun o9 w' => ∃ h' U q, o9 = .tuple #[netV h' U, VB q] ∧ ((q = true ∧ NOk A ∧ h' = ⟨a1, c1, a2, c2, a3, c3⟩ ∧ U = A) ∨ (q = false ∧ ¬ NOk A ∧ h' = ⟨none, 0, none, 0, none, 0⟩ ∧ U = ⟨[], [], []⟩)) ∧ Ext w w') := by
  subst e1 e2 e3; exact network_spec ⟨a1, c1, a2, c2, a3, c3⟩ A w hA hhi hn

theorem mixF_nil {α : Type} {f : Nat → List α} {n i : Nat} (h : i < n) : mixF f (List.replicate n []) i = (mixF f (List.replicate n []) i).set i ((f i).take 0) := by
  have h2 : i < (mixF f (List.replicate n []) i).length := by simpa [mixF_len] using h
  have e : (mixF f (List.replicate n []) i)[i] = (f i).take 0 := by rw [mixF_row (by simpa using h)]; simp
  rw [← e, List.set_getElem_self]
theorem srch_lt {L : List Int} {v : Int} {j : Nat} (hm : v ∈ L) (h : ∀ y (_ : y < j) (h2 : y < L.length), decide (v = L[y]) = false) : j < L.length := by
  obtain ⟨y, hy, e⟩ := List.mem_iff_getElem.1 hm
  by_cases k : y < j
  · have := h y k hy; rw [decide_eq_false_iff_not] at this; exact absurd e.symm this
  · omega
theorem nearA_take {A : Net} {r : Int} {i : Nat} {xs : List Int} (h : i < A.ends.length) (e : xs = nearL A r i) : (nearA A r).take i ++ [xs] = (nearA A r).take (i + 1) := by
  subst e
  rw [List.take_succ_eq_append_getElem (by rw [nearA_len]; exact h), nearA_at]

end Go.Proofs.Ytladejfcplpnaaa
