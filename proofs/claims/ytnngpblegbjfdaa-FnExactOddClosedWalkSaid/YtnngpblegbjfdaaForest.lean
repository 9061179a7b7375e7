/- Components and cycles: a network is a forest when its edges and components add up to its nodes. No condition. -/
import Derived.Test.YtnngpblegbjfdaaEdges
namespace Go.Proofs.Ytnngpblegbjfdaa
open Go Go.RowKit

/-- Joined by edges. -/
inductive Con (E : List (Nat × Nat)) : Nat → Nat → Prop
  | refl (x : Nat) : Con E x x
  | step {x y z : Nat} (h : Con E x y) (k : (y, z) ∈ E ∨ (z, y) ∈ E) : Con E x z
section
variable {E F : List (Nat × Nat)} {a b x y z n : Nat}
theorem Con.trans (h : Con E x y) (k : Con E y z) : Con E x z := by
  induction k with
  | refl => exact h
  | step _ hz ih => exact .step ih hz
theorem Con.symm (h : Con E x y) : Con E y x := by
  induction h with
  | refl => exact .refl _
  | step _ hz ih => exact (Con.step (.refl _) hz.symm).trans ih
theorem Con.mono (h : Con E x y) (hs : ∀ p, p ∈ E → p ∈ F) : Con F x y := by
  induction h with
  | refl => exact .refl _
  | step _ hz ih => exact .step ih (hz.imp (hs _) (hs _))
theorem Con.iff_of_mem (hs : ∀ p, p ∈ E ↔ p ∈ F) : Con E x y ↔ Con F x y := ⟨fun h => h.mono fun p => (hs p).1, fun h => h.mono fun p => (hs p).2⟩
theorem Con.nil (h : Con [] x y) : x = y := by
  cases h with
  | refl => rfl
  | step _ hz => simp at hz
theorem Con.add : Con ((a, b) :: E) x y ↔ Con E x y ∨ (Con E x a ∧ Con E b y) ∨ (Con E x b ∧ Con E a y) := by
  constructor
  · intro h
    induction h with
    | refl => exact .inl (.refl _)
    | step h hz ih =>
      rename_i u v
      have hz' : ((u = a ∧ v = b) ∨ (u = b ∧ v = a)) ∨ ((u, v) ∈ E ∨ (v, u) ∈ E) := by
        rcases hz with hz | hz
        · rcases List.mem_cons.1 hz with e | e
          · cases e; exact .inl (.inl ⟨rfl, rfl⟩)
          · exact .inr (.inl e)
        · rcases List.mem_cons.1 hz with e | e
          · cases e; exact .inl (.inr ⟨rfl, rfl⟩)
          · exact .inr (.inr e)
      rcases hz' with (⟨rfl, rfl⟩ | ⟨rfl, rfl⟩) | hz'
      · rcases ih with h1 | ⟨h1, h2⟩ | ⟨h1, h2⟩
        · exact .inr (.inl ⟨h1, .refl _⟩)
        · exact .inr (.inl ⟨h1, .refl _⟩)
        · exact .inl h1
      · rcases ih with h1 | ⟨h1, h2⟩ | ⟨h1, h2⟩
        · exact .inr (.inr ⟨h1, .refl _⟩)
        · exact .inl h1
        · exact .inr (.inr ⟨h1, .refl _⟩)
      · rcases ih with h1 | ⟨h1, h2⟩ | ⟨h1, h2⟩
        · exact .inl (.step h1 hz')
        · exact .inr (.inl ⟨h1, .step h2 hz'⟩)
        · exact .inr (.inr ⟨h1, .step h2 hz'⟩)
  · have up : ∀ {u v}, Con E u v → Con ((a, b) :: E) u v := fun h => h.mono fun p hp => List.mem_cons_of_mem _ hp
    have ab : Con ((a, b) :: E) a b := .step (.refl _) (.inl (List.mem_cons_self ..))
    rintro (h | ⟨h1, h2⟩ | ⟨h1, h2⟩)
    · exact up h
    · exact ((up h1).trans ab).trans (up h2)
    · exact ((up h1).trans ab.symm).trans (up h2)
/-- The least node of its component. -/
def IsRoot (E : List (Nat × Nat)) (v : Nat) : Prop := ∀ u, u < v → ¬ Con E u v
open Classical in
noncomputable def nroots (E : List (Nat × Nat)) : Nat → Nat
  | 0 => 0
  | v + 1 => nroots E v + if IsRoot E v then 1 else 0
theorem nroots_congr (h : ∀ v, v < n → (IsRoot E v ↔ IsRoot F v)) : nroots E n = nroots F n := by
  induction n with
  | zero => rfl
  | succ n ih =>
    have h1 := h n (Nat.lt_succ_self _)
    have h2 := ih fun v hv => h v (by omega)
    simp only [nroots, h2]
    by_cases hr : IsRoot E n
    · rw [if_pos hr, if_pos (h1.1 hr)]
    · rw [if_neg hr, if_neg fun k => hr (h1.2 k)]
theorem nroots_drop {m : Nat} (hm : IsRoot E m) (h : ∀ v, v < n → (IsRoot F v ↔ IsRoot E v ∧ v ≠ m)) : nroots F n + (if m < n then 1 else 0) = nroots E n := by
  induction n with
  | zero => simp [nroots]
  | succ n ih =>
    have h1 := h n (Nat.lt_succ_self _)
    have h2 := ih fun v hv => h v (by omega)
    simp only [nroots]
    by_cases e : n = m
    · subst e
      rw [if_pos hm, if_neg fun k => (h1.1 k).2 rfl, if_pos (Nat.lt_succ_self _)]
      rw [if_neg (Nat.lt_irrefl _)] at h2
      omega
    · by_cases hr : IsRoot E n
      · rw [if_pos hr, if_pos (h1.2 ⟨hr, e⟩)]
        by_cases hl : m < n
        · rw [if_pos hl] at h2; rw [if_pos (by omega)]; omega
        · rw [if_neg hl] at h2; rw [if_neg (by omega)]; omega
      · rw [if_neg hr, if_neg fun k => hr (h1.1 k).1]
        by_cases hl : m < n
        · rw [if_pos hl] at h2; rw [if_pos (by omega)]; omega
        · rw [if_neg hl] at h2; rw [if_neg (by omega)]; omega
theorem nroots_nil (n : Nat) : nroots [] n = n := by
  induction n with
  | zero => rfl
  | succ n ih =>
    simp only [nroots, ih]
    rw [if_pos (show IsRoot [] n from fun u hu h => by have := h.nil; omega)]
theorem root_ex (E : List (Nat × Nat)) (a : Nat) : ∃ r, r ≤ a ∧ Con E r a ∧ IsRoot E r := by
  induction a using Nat.strongRecOn with
  | ind a ih =>
    by_cases h : IsRoot E a
    · exact ⟨a, Nat.le_refl _, .refl _, h⟩
    · have : ∃ u, u < a ∧ Con E u a := by
        refine Classical.byContradiction fun k => h fun u hu hc => k ⟨u, hu, hc⟩
      obtain ⟨u, hu, hc⟩ := this
      obtain ⟨r, h1, h2, h3⟩ := ih u hu
      exact ⟨r, by omega, h2.trans hc, h3⟩
theorem root_one {r s : Nat} (hr : IsRoot E r) (hs : IsRoot E s) (h : Con E r s) : r = s := by
  rcases Nat.lt_trichotomy r s with k | k | k
  · exact absurd h (hs r k)
  · exact k
  · exact absurd h.symm (hr s k)
theorem nroots_same (h : Con E a b) : nroots ((a, b) :: E) n = nroots E n := by
  refine nroots_congr fun v _ => ?_
  have : ∀ u, Con ((a, b) :: E) u v ↔ Con E u v := fun u => by
    rw [Con.add]
    exact ⟨fun k => by
      rcases k with k | ⟨k1, k2⟩ | ⟨k1, k2⟩
      · exact k
      · exact (k1.trans h).trans k2
      · exact (k1.trans h.symm).trans k2, .inl⟩
  exact ⟨fun k u hu hc => k u hu ((this u).2 hc), fun k u hu hc => k u hu ((this u).1 hc)⟩
theorem nroots_less (ha : a < n) (hb : b < n) (h : ¬ Con E a b) : nroots ((a, b) :: E) n + 1 = nroots E n := by
  obtain ⟨ra, ha1, ha2, ha3⟩ := root_ex E a
  obtain ⟨rb, hb1, hb2, hb3⟩ := root_ex E b
  have hne : ra ≠ rb := fun e => h (by subst e; exact ha2.symm.trans hb2)
  have hab : Con ((a, b) :: E) ra rb := Con.add.2 (.inr (.inl ⟨ha2, hb2.symm⟩))
  have hm : IsRoot E (max ra rb) := by rcases Nat.le_total ra rb with k | k
                                       · rw [Nat.max_eq_right k]; exact hb3
                                       · rw [Nat.max_eq_left k]; exact ha3
  have key := nroots_drop (n := n) (F := (a, b) :: E) hm fun v hv => by
    constructor
    · intro hr
      refine ⟨fun u hu hc => hr u hu (Con.add.2 (.inl hc)), fun e => ?_⟩
      subst e
      rcases Nat.lt_or_gt_of_ne hne with k | k
      · rw [Nat.max_eq_right (by omega)] at hr; exact hr ra k hab
      · rw [Nat.max_eq_left (by omega)] at hr; exact hr rb k hab.symm
    · rintro ⟨hr, hv⟩ u hu hc
      rcases Con.add.1 hc with k | ⟨k1, k2⟩ | ⟨k1, k2⟩
      · exact hr u hu k
      · have e : v = rb := root_one hr hb3 (k2.symm.trans hb2.symm)
        subst e
        have h1 : ¬ u < ra := fun k => ha3 u k (k1.trans ha2.symm)
        exact hv (by rw [Nat.max_eq_right (by omega)])
      · have e : v = ra := root_one hr ha3 (k2.symm.trans ha2.symm)
        subst e
        have h1 : ¬ u < rb := fun k => hb3 u k (k1.trans hb2.symm)
        exact hv (by rw [Nat.max_eq_left (by omega)])
  rw [if_pos (by omega)] at key
  exact key
theorem nroots_ge (hE : ∀ p ∈ E, p.1 < n ∧ p.2 < n) : n ≤ nroots E n + E.length := by
  induction E with
  | nil => rw [nroots_nil]; simp
  | cons p E ih =>
    obtain ⟨a, b⟩ := p
    have h1 := ih fun q hq => hE q (List.mem_cons_of_mem _ hq)
    have h2 := hE (a, b) (List.mem_cons_self ..)
    rw [List.length_cons]
    by_cases h : Con E a b
    · rw [nroots_same h]; omega
    · have : nroots ((a, b) :: E) n + 1 = nroots E n := nroots_less (n := n) h2.1 h2.2 h
      omega
theorem nroots_eq (hE : ∀ p ∈ E, p.1 < n ∧ p.2 < n) (h : ∀ i (hi : i < E.length), ¬ Con (E.eraseIdx i) E[i].1 E[i].2) : nroots E n + E.length = n := by
  induction E with
  | nil => rw [nroots_nil]; rfl
  | cons p E ih =>
    obtain ⟨a, b⟩ := p
    have h1 := ih (fun q hq => hE q (List.mem_cons_of_mem _ hq)) fun i hi hc => h (i + 1) (by simpa using hi) (by
      simp only [List.eraseIdx_cons_succ, List.getElem_cons_succ]
      exact hc.mono fun q hq => List.mem_cons_of_mem _ hq)
    have h2 := hE (a, b) (List.mem_cons_self ..)
    have h3 := h 0 (by simp)
    simp only [List.eraseIdx_cons_zero, List.getElem_cons_zero] at h3
    have : nroots ((a, b) :: E) n + 1 = nroots E n := nroots_less (n := n) h2.1 h2.2 h3
    rw [List.length_cons]; omega
theorem mem_erase {i : Nat} (hi : i < E.length) (p : Nat × Nat) : p ∈ E ↔ p ∈ E[i] :: E.eraseIdx i := by
  rw [List.mem_cons, List.mem_eraseIdx_iff_getElem]
  constructor
  · intro hp
    obtain ⟨j, hj, e⟩ := List.mem_iff_getElem.1 hp
    by_cases hji : j = i
    · subst hji; exact .inl e.symm
    · exact .inr ⟨j, hj, hji, e⟩
  · rintro (e | ⟨j, hj, _, e⟩)
    · rw [e]; exact List.getElem_mem _
    · rw [← e]; exact List.getElem_mem _
theorem forest_iff (hE : ∀ p ∈ E, p.1 < n ∧ p.2 < n) : nroots E n + E.length = n ↔ ∀ i (hi : i < E.length), ¬ Con (E.eraseIdx i) E[i].1 E[i].2 := by
  refine ⟨fun h i hi hc => ?_, nroots_eq hE⟩
  have e1 : nroots E n = nroots (E[i] :: E.eraseIdx i) n := nroots_congr fun v _ => by
    exact ⟨fun k u hu hc => k u hu ((Con.iff_of_mem (mem_erase hi)).2 hc), fun k u hu hc => k u hu ((Con.iff_of_mem (mem_erase hi)).1 hc)⟩
  have e2 : nroots (E[i] :: E.eraseIdx i) n = nroots (E.eraseIdx i) n := nroots_same (a := E[i].1) (b := E[i].2) hc
  have h3 := nroots_ge (n := n) (E := E.eraseIdx i) fun p hp => hE p (List.mem_of_mem_eraseIdx hp)
  have h4 := List.length_eraseIdx_of_lt hi
  omega
end

/-! ### Networks -/
/-- Each port leads back. -/
def PortsOk (ends : Ends) : Prop := ∀ v (hv : v < ends.length) i (hi : i < ends[v].length), 0 ≤ ends[v][i].1 ∧ ∃ _h : ends[v][i].1.toNat < ends.length, 0 ≤ ends[v][i].2 ∧ ∃ _h2 : ends[v][i].2.toNat < ends[ends[v][i].1.toNat].length, ends[ends[v][i].1.toNat][ends[v][i].2.toNat] = ((v : Int), (i : Int))
/-- The edges as pairs of nodes. -/
def qEd (q : Quad) : Nat × Nat := (q.1.toNat, q.2.2.1.toNat)
section
variable {ends : Ends}
theorem PortsOk.endsOk (hp : PortsOk ends) : EndsOk ends := by
  intro r hr e he
  obtain ⟨v, hv, rfl⟩ := List.mem_iff_getElem.1 hr
  obtain ⟨i, hi, rfl⟩ := List.mem_iff_getElem.1 he
  have := hp v hv i hi
  exact ⟨this.1, this.2.1⟩
theorem mem_near {x : Nat} {y : Int} (hx : x < ends.length) : y ∈ near ends (x : Int) ↔ ∃ i, ∃ hi : i < ends[x].length, ends[x][i].1 = y := by
  have e : near ends (x : Int) = (ends[x]).map Prod.fst := by have := near_get (ends := ends) (w := (x : Int)) (by simpa using hx); simpa using this
  rw [e, List.mem_map]
  constructor
  · rintro ⟨p, hp, rfl⟩
    obtain ⟨i, hi, rfl⟩ := List.mem_iff_getElem.1 hp
    exact ⟨i, hi, rfl⟩
  · rintro ⟨i, hi, rfl⟩
    exact ⟨_, List.getElem_mem hi, rfl⟩
theorem PortsOk.symE (hp : PortsOk ends) : SymE ends := by
  intro x y h0 h1 hy
  obtain ⟨m, rfl⟩ : ∃ m : Nat, x = m := ⟨x.toNat, by omega⟩
  simp only [Int.toNat_natCast] at h1
  obtain ⟨i, hi, rfl⟩ := (mem_near h1).1 hy
  obtain ⟨k1, k2, k3, k4, k5⟩ := hp m h1 i hi
  have := (mem_near (y := (m : Int)) k2).2 ⟨_, k4, by rw [k5]⟩
  rwa [Int.toNat_of_nonneg k1] at this
/-- The quad of a port's edge. -/
def quadOf (ends : Ends) (v i : Nat) (e : Int × Int) : Quad := if fstE v i e then ((v : Int), (i : Int), e.1, e.2) else (e.1, e.2, (v : Int), (i : Int))
theorem quadOf_mem (hp : PortsOk ends) {v i : Nat} (hv : v < ends.length) (hi : i < ends[v].length) : quadOf ends v i ends[v][i] ∈ edL ends := by
  unfold quadOf
  split
  · rename_i hf; exact edL_mem.2 ⟨v, hv, i, hi, hf, rfl⟩
  · rename_i hf
    obtain ⟨h1, h2, h3, h4, h5⟩ := hp v hv i hi
    refine edL_mem.2 ⟨_, h2, _, h4, (by rw [h5]; unfold fstE at hf ⊢; simp only []; omega), ?_⟩
    rw [h5, Int.toNat_of_nonneg h1, Int.toNat_of_nonneg h3]
/-- Keys of quads: the first port. -/
theorem edR_key {v : Nat} {r : List (Int × Int)} : ∀ k, k ≤ r.length → ((edR v r k).map fun q => (q.1, q.2.1)).Nodup ∧ ∀ q ∈ edR v r k, q.1 = (v : Int) ∧ q.2.1 < (k : Int) := by
  intro k
  induction k with
  | zero => intro _; simp [edR]
  | succ k ih =>
    intro hk
    obtain ⟨h1, h2⟩ := ih (by omega)
    by_cases hf : fstE v k (r[k]'(by omega))
    · rw [edR_yes (by omega) hf]
      refine ⟨?_, fun q hq => ?_⟩
      · rw [List.map_append, List.nodup_append]
        refine ⟨h1, by simp, fun a ha b hb e => ?_⟩
        obtain ⟨q, hq, rfl⟩ := List.mem_map.1 ha
        have := (h2 q hq).2
        simp only [List.map_cons, List.map_nil, List.mem_singleton] at hb
        subst hb
        have := (Prod.mk.inj e).2
        omega
      · rcases List.mem_append.1 hq with hq | hq
        · have := h2 q hq; exact ⟨this.1, by omega⟩
        · rw [List.mem_singleton] at hq; subst hq; exact ⟨rfl, by simp only []; omega⟩
    · rw [edR_no (by omega) hf]
      exact ⟨h1, fun q hq => by have := h2 q hq; exact ⟨this.1, by omega⟩⟩
theorem edN_key : ∀ n, n ≤ ends.length → ((edN ends n).map fun q => (q.1, q.2.1)).Nodup ∧ ∀ q ∈ edN ends n, q.1 < (n : Int) := by
  intro n
  induction n with
  | zero => intro _; simp [edN]
  | succ n ih =>
    intro hn
    obtain ⟨h1, h2⟩ := ih (by omega)
    rw [edN_succ (by omega)]
    obtain ⟨h3, h4⟩ := edR_key (v := n) (r := ends[n]'(by omega)) _ (Nat.le_refl _)
    refine ⟨?_, fun q hq => ?_⟩
    · rw [List.map_append, List.nodup_append]
      refine ⟨h1, h3, fun a ha b hb e => ?_⟩
      obtain ⟨q, hq, rfl⟩ := List.mem_map.1 ha
      obtain ⟨p, hp', rfl⟩ := List.mem_map.1 hb
      have := h2 q hq; have := (h4 p hp').1; have := (Prod.mk.inj e).1
      omega
    · rcases List.mem_append.1 hq with hq | hq
      · have := h2 q hq; omega
      · have := (h4 q hq).1; omega
theorem edL_inj {i j : Nat} (hi : i < (edL ends).length) (hj : j < (edL ends).length) (e1 : (edL ends)[i].1 = (edL ends)[j].1) (e2 : (edL ends)[i].2.1 = (edL ends)[j].2.1) : i = j := by
  have h := (edN_key (ends := ends) ends.length (Nat.le_refl _)).1
  rw [List.Nodup, List.pairwise_iff_getElem] at h
  have hi' : i < ((edN ends ends.length).map fun q => (q.1, q.2.1)).length := by simpa [edL] using hi
  have hj' : j < ((edN ends ends.length).map fun q => (q.1, q.2.1)).length := by simpa [edL] using hj
  have e : ((edN ends ends.length).map fun q => (q.1, q.2.1))[i] = ((edN ends ends.length).map fun q => (q.1, q.2.1))[j] := by
    simp only [List.getElem_map]; exact Prod.ext e1 e2
  rcases Nat.lt_trichotomy i j with k | k | k
  · exact absurd e (h i j hi' hj' k)
  · exact k
  · exact absurd e.symm (h j i hj' hi' k)
/-- The network without some ports; N: what is left. -/
structure CutOf (ends N : Ends) (K : Nat → Nat → Bool) : Prop where
  len : N.length = ends.length
  row : ∀ v (hv : v < ends.length), (N.getD v []).map Prod.fst = ((List.range ends[v].length).filter (K v)).map fun i => (ends[v].getD i (0, 0)).1
theorem CutOf.near {N : Ends} {K : Nat → Nat → Bool} (h : CutOf ends N K) {x : Nat} {y : Int} (hx : x < ends.length) : y ∈ near N (x : Int) ↔ ∃ i, ∃ hi : i < ends[x].length, K x i = true ∧ ends[x][i].1 = y := by
  have e : Go.Proofs.Ytnngpblegbjfdaa.near N (x : Int) = (N.getD x []).map Prod.fst := rfl
  rw [e, h.row x hx, List.mem_map]
  constructor
  · rintro ⟨i, hi, rfl⟩
    obtain ⟨h1, h2⟩ := List.mem_filter.1 hi
    have h3 := List.mem_range.1 h1
    exact ⟨i, h3, h2, by rw [getD_eq h3]⟩
  · rintro ⟨i, hi, hk, rfl⟩
    exact ⟨i, List.mem_filter.2 ⟨List.mem_range.2 hi, hk⟩, by rw [getD_eq hi]⟩
/-- All ports but those of one edge. -/
def offE (v i : Nat) (e : Int × Int) (x k : Nat) : Bool := !(decide (x = v ∧ k = i)) && !(decide ((x : Int) = e.1 ∧ (k : Int) = e.2))
theorem offE_true {v i x k : Nat} {e : Int × Int} : offE v i e x k = true ↔ ¬ (x = v ∧ k = i) ∧ ¬ ((x : Int) = e.1 ∧ (k : Int) = e.2) := by
  unfold offE; rw [Bool.and_eq_true, Bool.not_eq_true', Bool.not_eq_true', decide_eq_false_iff_not, decide_eq_false_iff_not]
section
variable {N : Ends} {v i : Nat}
theorem cut_endsOk (hp : PortsOk ends) {K : Nat → Nat → Bool} (h : CutOf ends N K) : EndsOk N := by
  intro r hr e he
  obtain ⟨x, hx, rfl⟩ := List.mem_iff_getElem.1 hr
  have hx' : x < ends.length := by rw [← h.len]; exact hx
  have hy : e.1 ∈ near N (x : Int) := by
    have e2 : Go.Proofs.Ytnngpblegbjfdaa.near N (x : Int) = (N.getD x []).map Prod.fst := rfl
    rw [e2, getD_eq hx]; exact List.mem_map.2 ⟨e, he, rfl⟩
  obtain ⟨k, hk, _, e3⟩ := (h.near hx').1 hy
  have := hp x hx' k hk
  rw [← e3, h.len]; exact ⟨this.1, this.2.1⟩
theorem cut_sym (hp : PortsOk ends) (hv : v < ends.length) (hi : i < ends[v].length) (h : CutOf ends N (offE v i ends[v][i])) : SymE N := by
  intro x y h0 h1 hy
  obtain ⟨m, rfl⟩ : ∃ m : Nat, x = m := ⟨x.toNat, by omega⟩
  simp only [Int.toNat_natCast, h.len] at h1
  obtain ⟨k, hk, hK, rfl⟩ := (h.near h1).1 hy
  obtain ⟨k1, k2, k3, k4, k5⟩ := hp m h1 k hk
  obtain ⟨j1, j2, j3, j4, j5⟩ := hp v hv i hi
  have := (h.near (y := (m : Int)) k2).2 ⟨_, k4, ?_, by rw [k5]⟩
  · rwa [Int.toNat_of_nonneg k1] at this
  · rw [offE_true] at hK ⊢
    refine ⟨fun ⟨e1, e2⟩ => hK.2 ?_, fun ⟨e1, e2⟩ => hK.1 ?_⟩
    · have e : ends[v][i] = ((m : Int), (k : Int)) := by subst e1; subst e2; exact k5
      rw [e]; exact ⟨rfl, rfl⟩
    · have e1' : ends[m][k].1.toNat = ends[v][i].1.toNat := by omega
      have e2' : ends[m][k].2.toNat = ends[v][i].2.toNat := by omega
      have e : ((m : Int), (k : Int)) = ((v : Int), (i : Int)) := by
        rw [← k5, ← j5]; simp only [e1', e2']
      have := Prod.mk.inj e; omega
/-- Walks of a network, by its edges. -/
theorem con_walk {N : Ends} {E : List (Nat × Nat)} {n : Nat} (hl : N.length = n) (hk : EndsOk N) (hn : ∀ x (_h : x < n) (y : Nat), (y : Int) ∈ near N (x : Int) ↔ ((x, y) ∈ E ∨ (y, x) ∈ E)) (hE : ∀ p ∈ E, p.1 < n ∧ p.2 < n) {u w : Nat} (hu : u < n) : (∃ k, Walk N k (u : Int) (w : Int)) ↔ Con E u w := by
  constructor
  · rintro ⟨k, h⟩
    have : ∀ {k : Nat} {x y : Int}, Walk N k x y → x = (u : Int) → Con E u y.toNat := by
      intro k x y h
      induction h with
      | nil h0 h1 => intro e; subst e; simp only [Int.toNat_natCast]; exact .refl _
      | snoc h hz ih =>
        rename_i y z
        intro e
        have hy := h.rng hk
        have hz' := near_ok hk _ _ hz
        obtain ⟨y', rfl⟩ : ∃ m : Nat, y = m := ⟨y.toNat, by omega⟩
        obtain ⟨z', rfl⟩ : ∃ m : Nat, z = m := ⟨z.toNat, by omega⟩
        have h3 := ih e
        simp only [Int.toNat_natCast] at h3 hy ⊢
        exact .step h3 ((hn y' (by omega) z').1 hz)
    have := this h rfl
    simpa using this
  · intro h
    have key : w < n ∧ ∃ k, Walk N k (u : Int) (w : Int) := by
      clear hk
      induction h with
      | refl => exact ⟨hu, 0, .nil (by omega) (by simpa [hl] using hu)⟩
      | step h hz ih =>
        rename_i y z
        obtain ⟨hy, k, hw⟩ := ih
        have hz' : z < n := by rcases hz with hz | hz; exact (hE _ hz).2; exact (hE _ hz).1
        exact ⟨hz', k + 1, .snoc hw ((hn y hy z).2 hz)⟩
    exact key.2
theorem edE_lt (hp : PortsOk ends) : ∀ p ∈ (edL ends).map qEd, p.1 < ends.length ∧ p.2 < ends.length := by
  intro p hm
  obtain ⟨q, hq, rfl⟩ := List.mem_map.1 hm
  obtain ⟨v, hv, i, hi, _, rfl⟩ := edL_mem.1 hq
  have := hp v hv i hi
  exact ⟨by simpa [qEd] using hv, this.2.1⟩
theorem near_edE (hp : PortsOk ends) {x y : Nat} (hx : x < ends.length) : (y : Int) ∈ near ends (x : Int) ↔ ((x, y) ∈ (edL ends).map qEd ∨ (y, x) ∈ (edL ends).map qEd) := by
  rw [mem_near hx]
  constructor
  · rintro ⟨i, hi, e⟩
    have hm := quadOf_mem hp hx hi
    unfold quadOf at hm
    split at hm
    · exact .inl (List.mem_map.2 ⟨_, hm, by simp [qEd, e]⟩)
    · exact .inr (List.mem_map.2 ⟨_, hm, by simp [qEd, e]⟩)
  · rintro (h | h)
    · obtain ⟨q, hq, e⟩ := List.mem_map.1 h
      obtain ⟨v, hv, i, hi, _, rfl⟩ := edL_mem.1 hq
      obtain ⟨e1, e2⟩ := Prod.mk.inj e
      simp only [Int.toNat_natCast] at e1
      subst e1
      have := (hp v hv i hi).1
      exact ⟨i, hi, by simp only [] at e2; omega⟩
    · obtain ⟨q, hq, e⟩ := List.mem_map.1 h
      obtain ⟨v, hv, i, hi, _, rfl⟩ := edL_mem.1 hq
      obtain ⟨e1, e2⟩ := Prod.mk.inj e
      simp only [Int.toNat_natCast] at e1 e2
      subst e1; subst e2
      obtain ⟨h1, h2, h3, h4, h5⟩ := hp v hv i hi
      exact ⟨_, h4, by rw [h5]⟩
/-- What is left without the edge of a port, by its edges. -/
theorem near_cut (hp : PortsOk ends) (hv : v < ends.length) (hi : i < ends[v].length) (h : CutOf ends N (offE v i ends[v][i])) {j : Nat} (hj : j < (edL ends).length) (hq : (edL ends)[j] = quadOf ends v i ends[v][i]) {x y : Nat} (hx : x < ends.length) :
    (y : Int) ∈ near N (x : Int) ↔ ((x, y) ∈ ((edL ends).map qEd).eraseIdx j ∨ (y, x) ∈ ((edL ends).map qEd).eraseIdx j) := by
  obtain ⟨g1, g2, g3, g4, g5⟩ := hp v hv i hi
  have hmem : ∀ p : Nat × Nat, p ∈ ((edL ends).map qEd).eraseIdx j ↔ ∃ k, ∃ hk : k < (edL ends).length, k ≠ j ∧ qEd (edL ends)[k] = p := by
    intro p
    rw [List.mem_eraseIdx_iff_getElem]
    constructor
    · rintro ⟨k, hk, h1, h2⟩
      have hk' : k < (edL ends).length := by simpa using hk
      exact ⟨k, hk', h1, by simpa using h2⟩
    · rintro ⟨k, hk, h1, h2⟩
      exact ⟨k, by simpa using hk, h1, by simpa using h2⟩
  -- a port is kept iff its quad is another one
  have hkeep : ∀ x (hx : x < ends.length) k (hk : k < ends[x].length), offE v i ends[v][i] x k = true ↔ quadOf ends x k ends[x][k] ≠ quadOf ends v i ends[v][i] := by
    intro x hx k hk
    obtain ⟨k1, k2, k3, k4, k5⟩ := hp x hx k hk
    rw [offE_true]
    constructor
    · rintro ⟨h1, h2⟩ e
      unfold quadOf at e
      split at e <;> split at e
      · obtain ⟨e1, e2⟩ := Prod.mk.inj e; have := (Prod.mk.inj e2).1; exact h1 ⟨by omega, by omega⟩
      · obtain ⟨e1, e2⟩ := Prod.mk.inj e; have := (Prod.mk.inj e2).1; exact h2 ⟨by omega, by omega⟩
      · obtain ⟨e1, e2⟩ := Prod.mk.inj e; obtain ⟨e2, e3⟩ := Prod.mk.inj e2; obtain ⟨e3, e4⟩ := Prod.mk.inj e3; exact h2 ⟨by omega, by omega⟩
      · obtain ⟨e1, e2⟩ := Prod.mk.inj e; obtain ⟨e2, e3⟩ := Prod.mk.inj e2; obtain ⟨e3, e4⟩ := Prod.mk.inj e3; exact h1 ⟨by omega, by omega⟩
    · intro e
      refine ⟨fun ⟨h1, h2⟩ => e (by subst h1; subst h2; rfl), fun ⟨h1, h2⟩ => e ?_⟩
      have e1 : ends[v][i] = ((x : Int), (k : Int)) := Prod.ext h1.symm h2.symm
      have e2 : ends[x][k] = ((v : Int), (i : Int)) := by
        rw [← g5]; simp only [e1, Int.toNat_natCast]
      rw [e1, e2]
      unfold quadOf
      by_cases c1 : fstE x k ((v : Int), (i : Int))
      · rw [if_pos c1]
        by_cases c2 : fstE v i ((x : Int), (k : Int))
        · rw [if_pos c2]
          unfold fstE at c1 c2
          simp only [] at c1 c2
          have : x = v := by omega
          have : k = i := by omega
          subst x; subst k; rfl
        · rw [if_neg c2]
      · rw [if_neg c1]
        by_cases c2 : fstE v i ((x : Int), (k : Int))
        · rw [if_pos c2]
        · exfalso
          unfold fstE at c1 c2
          simp only [] at c1 c2
          omega
  rw [h.near hx]
  simp only [hmem]
  constructor
  · rintro ⟨k, hk, hK, e⟩
    have hne := (hkeep x hx k hk).1 hK
    have hm := quadOf_mem hp hx hk
    obtain ⟨m, hm1, hm2⟩ := List.mem_iff_getElem.1 hm
    have hmj : m ≠ j := fun e9 => hne (by subst e9; rw [← hm2, hq])
    have hq2 : qEd (edL ends)[m] = (x, y) ∨ qEd (edL ends)[m] = (y, x) := by
      rw [hm2]; unfold quadOf
      split
      · left; simp [qEd, e]
      · right; simp [qEd, e]
    rcases hq2 with hq2 | hq2
    · exact .inl ⟨m, hm1, hmj, hq2⟩
    · exact .inr ⟨m, hm1, hmj, hq2⟩
  · have key : ∀ m (hm : m < (edL ends).length), m ≠ j → ∃ x' , ∃ hx' : x' < ends.length, ∃ k, ∃ hk : k < ends[x'].length, offE v i ends[v][i] x' k = true ∧ (edL ends)[m] = ((x' : Int), (k : Int), ends[x'][k].1, ends[x'][k].2) := by
      intro m hm hmj
      obtain ⟨x', hx', k, hk, hf, e⟩ := edL_mem.1 (List.getElem_mem hm)
      refine ⟨x', hx', k, hk, (hkeep x' hx' k hk).2 fun e9 => hmj ?_, e⟩
      have e8 : quadOf ends x' k ends[x'][k] = (edL ends)[m] := by rw [e]; unfold quadOf; rw [if_pos hf]
      have e10 : (edL ends)[m] = (edL ends)[j] := by rw [← e8, e9, hq]
      exact edL_inj hm hj (by rw [e10]) (by rw [e10])
    rintro (⟨m, hm, hmj, e⟩ | ⟨m, hm, hmj, e⟩)
    · obtain ⟨x', hx', k, hk, hK, e2⟩ := key m hm hmj
      rw [e2] at e
      obtain ⟨e3, e4⟩ := Prod.mk.inj e
      simp only [Int.toNat_natCast] at e3 e4
      subst e3
      have := (hp x' hx' k hk).1
      exact ⟨k, hk, hK, by omega⟩
    · obtain ⟨x', hx', k, hk, hK, e2⟩ := key m hm hmj
      rw [e2] at e
      obtain ⟨e3, e4⟩ := Prod.mk.inj e
      simp only [Int.toNat_natCast] at e3 e4
      subst e3; subst e4
      obtain ⟨k1, k2, k3, k4, k5⟩ := hp x' hx' k hk
      refine ⟨_, k4, ?_, by rw [k5]⟩
      rw [offE_true] at hK ⊢
      refine ⟨fun ⟨e1, e2⟩ => hK.2 ?_, fun ⟨e1, e2⟩ => hK.1 ?_⟩
      · have e : ends[v][i] = ((x' : Int), (k : Int)) := by subst e1; subst e2; exact k5
        rw [e]; exact ⟨rfl, rfl⟩
      · have e1' : ends[x'][k].1.toNat = ends[v][i].1.toNat := by omega
        have e2' : ends[x'][k].2.toNat = ends[v][i].2.toNat := by omega
        have e : ((x' : Int), (k : Int)) = ((v : Int), (i : Int)) := by
          rw [← k5, ← g5]; simp only [e1', e2']
        have := Prod.mk.inj e; omega
end
/-- No stub. -/
def NoStub (ends : Ends) : Prop := ∀ v (hv : v < ends.length) i (hi : i < ends[v].length), ends[v][i] ≠ ((v : Int), (i : Int))
/-- How many nodes are the least ones of their components. -/
def rootsN (ends : Ends) (n : Nat) : Nat := ((List.range n).filter fun v => decide ((cmpN ends ends.length).getD v 0 = (v : Int))).length
theorem rootsN_succ (ends : Ends) (n : Nat) : rootsN ends (n + 1) = rootsN ends n + if (cmpN ends ends.length).getD n 0 = (n : Int) then 1 else 0 := by
  unfold rootsN
  rw [List.range_succ, List.filter_append, List.length_append]
  by_cases h : (cmpN ends ends.length).getD n 0 = (n : Int)
  · rw [if_pos h]
    have : ([n].filter fun v => decide ((cmpN ends ends.length).getD v 0 = (v : Int))) = [n] := List.filter_cons_of_pos (p := fun v : Nat => decide ((cmpN ends ends.length).getD v 0 = (v : Int))) (decide_eq_true h)
    rw [this]; rfl
  · rw [if_neg h]
    have : ([n].filter fun v => decide ((cmpN ends ends.length).getD v 0 = (v : Int))) = [] := List.filter_cons_of_neg (p := fun v : Nat => decide ((cmpN ends ends.length).getD v 0 = (v : Int))) (by rw [decide_eq_false h]; simp)
    rw [this]; rfl
theorem cmp_root (hp : PortsOk ends) {v : Nat} (hv : v < ends.length) : (cmpN ends ends.length).getD v 0 = (v : Int) ↔ IsRoot ((edL ends).map qEd) v := by
  have hk := hp.endsOk
  have hc : ∀ u, u < ends.length → (0 ≤ (bfs ends (u : Int)).getD v 0 ↔ Con ((edL ends).map qEd) u v) := fun u hu => by
    rw [reach_iff hk hu hv]
    exact con_walk rfl hk (fun x hx y => near_edE hp hx) (edE_lt hp) hu
  rw [getD_eq (by rw [cmpN_len]; exact hv), cmpN_at]
  have hex : ∃ u, (List.range ends.length).find? (fun (u : Nat) => decide (0 ≤ (bfs ends (u : Int)).getD v 0)) = some u := by
    cases hf : (List.range ends.length).find? (fun (u : Nat) => decide (0 ≤ (bfs ends (u : Int)).getD v 0)) with
    | some u => exact ⟨u, rfl⟩
    | none =>
      have := List.find?_eq_none.1 hf v (List.mem_range.2 hv)
      exact absurd (decide_eq_true ((hc v hv).2 (.refl _))) this
  obtain ⟨u, hu⟩ := hex
  rw [hu]
  simp only [Option.map_some, Option.getD_some]
  rw [List.find?_range_eq_some] at hu
  obtain ⟨h1, h2, h3⟩ := hu
  have h1 := of_decide_eq_true h1
  have h2 := List.mem_range.1 h2
  constructor
  · intro e
    have e : u = v := by omega
    subst e
    intro x hx hcx
    have := h3 x hx
    have h4 := (hc x (by omega)).2 hcx
    simp only [decide_eq_true h4] at this
    cases this
  · intro hr
    have h4 := (hc u h2).1 h1
    have h5 : ¬ u < v := fun k => hr u k h4
    have h6 : ¬ v < u := fun k => by
      have := h3 v k
      simp only [decide_eq_true ((hc v hv).2 (.refl _))] at this
      cases this
    omega
theorem rootsN_eq (hp : PortsOk ends) : ∀ n, n ≤ ends.length → rootsN ends n = nroots ((edL ends).map qEd) n := by
  intro n
  induction n with
  | zero => intro _; rfl
  | succ n ih =>
    intro hn
    rw [rootsN_succ, ih (by omega), nroots]
    congr 1
    have := cmp_root hp (show n < ends.length by omega)
    by_cases h : (cmpN ends ends.length).getD n 0 = (n : Int)
    · rw [if_pos h, if_pos (this.1 h)]
    · rw [if_neg h, if_neg fun k => h (this.2 k)]
/-- The reference's sight of a forest, with any networks without one edge. -/
theorem forest_law (hp : PortsOk ends) (C : Nat → Nat → Ends) (hC : ∀ v (hv : v < ends.length) i (hi : i < ends[v].length), CutOf ends (C v i) (offE v i ends[v][i])) :
    rootsN ends ends.length + (edL ends).length = ends.length ↔ ∀ v (hv : v < ends.length) i (hi : i < ends[v].length), (bfs (C v i) (v : Int)).getD ends[v][i].1.toNat 0 < 0 := by
  rw [rootsN_eq hp _ (Nat.le_refl _)]
  have hl : (edL ends).length = ((edL ends).map qEd).length := by simp
  rw [hl, forest_iff (edE_lt hp)]
  have hreach : ∀ v (hv : v < ends.length) i (hi : i < ends[v].length) j (hj : j < (edL ends).length), (edL ends)[j] = quadOf ends v i ends[v][i] → ((bfs (C v i) (v : Int)).getD ends[v][i].1.toNat 0 < 0 ↔ ¬ Con (((edL ends).map qEd).eraseIdx j) (((edL ends).map qEd)[j]'(by simpa using hj)).1 (((edL ends).map qEd)[j]'(by simpa using hj)).2) := by
    intro v hv i hi j hj hq
    have hcut := hC v hv i hi
    have hk := cut_endsOk hp hcut
    obtain ⟨g1, g2, g3, g4, g5⟩ := hp v hv i hi
    have h1 : 0 ≤ (bfs (C v i) (v : Int)).getD ends[v][i].1.toNat 0 ↔ Con (((edL ends).map qEd).eraseIdx j) v ends[v][i].1.toNat := by
      rw [reach_iff hk (by rw [hcut.len]; exact hv) (by rw [hcut.len]; exact g2)]
      exact con_walk hcut.len hk (fun x hx y => near_cut hp hv hi hcut hj hq hx) (fun p hp' => edE_lt hp p (List.mem_of_mem_eraseIdx hp')) hv
    have h2 : Con (((edL ends).map qEd).eraseIdx j) v ends[v][i].1.toNat ↔ Con (((edL ends).map qEd).eraseIdx j) (((edL ends).map qEd)[j]'(by simpa using hj)).1 (((edL ends).map qEd)[j]'(by simpa using hj)).2 := by
      simp only [List.getElem_map, hq]
      unfold quadOf
      split
      · simp only [qEd, Int.toNat_natCast]
      · simp only [qEd, Int.toNat_natCast]; exact ⟨fun h => h.symm, fun h => h.symm⟩
    rw [← h2, ← h1]; omega
  constructor
  · intro h v hv i hi
    obtain ⟨j, hj, e⟩ := List.mem_iff_getElem.1 (quadOf_mem hp hv hi)
    exact (hreach v hv i hi j hj e).2 (h j (by simpa using hj))
  · intro h j hj
    have hj' : j < (edL ends).length := by simpa using hj
    obtain ⟨v, hv, i, hi, hf, e⟩ := edL_mem.1 (List.getElem_mem hj')
    exact (hreach v hv i hi j hj' (by rw [e]; unfold quadOf; rw [if_pos hf])).1 (h v hv i hi)
end
end Go.Proofs.Ytnngpblegbjfdaa
