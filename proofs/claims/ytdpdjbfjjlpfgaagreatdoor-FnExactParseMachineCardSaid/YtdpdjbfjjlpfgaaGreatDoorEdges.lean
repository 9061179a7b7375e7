/- Edges of a network: lists of four numbers. No condition. -/
import Derived.Test.YtdpdjbfjjlpfgaaGreatDoorLists
import Derived.Test.YtdpdjbfjjlpfgaaGreatDoorMore
namespace Go.Proofs.YtdpdjbfjjlpfgaaGreatDoor
open Go Go.RowKit

section
variable {P : Program} {L : Env} {ty T T' : TypeId} {w : World} {x y : Operand} {m k : Int}
theorem ev_rem (hx : ev L x = some (VI m)) (hy : ev L y = some (VI k)) (h0 : 0 ≤ m) (hk : 0 < k) : EvR P L (.binOp .rem T x y T') ty w (VI (m % k)) := by
  intro ρ hρ d p f g
  have hk0 : k ≠ 0 := by omega
  simp [execOp, hρ x _ hx, hρ y _ hy, eqGuard, binOp, Op.intDiv, hk0, Int.tmod_eq_emod_of_nonneg h0]
theorem ev_quo (hx : ev L x = some (VI m)) (hy : ev L y = some (VI k)) (h0 : 0 ≤ m) (hk : 0 < k) (hi : I64 (m / k)) : EvR P L (.binOp .quo T x y T') ty w (VI (m / k)) := by
  intro ρ hρ d p f g
  have hk0 : k ≠ 0 := by omega
  simp [execOp, hρ x _ hx, hρ y _ hy, eqGuard, binOp, Op.intDiv, hk0, Int.tdiv_eq_ediv_of_nonneg h0, wrap_in hi]
theorem ev_build4 {x y z q : Operand} {v u v3 v4 : Value} (hn : structN P T 4 = true) (hx : ev L x = some v) (hy : ev L y = some u) (hz : ev L z = some v3) (hq : ev L q = some v4) (h1 : v.cells = #[v]) (h2 : u.cells = #[u]) (h3 : v3.cells = #[v3]) (h4 : v4.cells = #[v4]) : EvR P L (.build T #[(0, x), (1, y), (2, z), (3, q)]) ty w (.agg #[v, u, v3, v4]) :=
  ev_build (xs := [x, y, z, q]) (l := [v, u, v3, v4]) hn (by simp [evs, hx, hy, hz, hq]) (by intro a ha; simp at ha; rcases ha with rfl | rfl | rfl | rfl <;> assumption)
end
abbrev Quad := Int × Int × Int × Int
def qCells (q : Quad) : List Value := [VI q.1, VI q.2.1, VI q.2.2.1, VI q.2.2.2]
def quadCells (qs : List Quad) : List Value := (qs.map qCells).flatten
theorem qCells_one (q : Quad) : ∀ u ∈ qCells q, u.oneCell' = true := by intro u hu; simp [qCells] at hu; rcases hu with rfl | rfl | rfl | rfl <;> rfl
theorem quadCells_app (qs rs : List Quad) : quadCells (qs ++ rs) = quadCells qs ++ quadCells rs := by simp [quadCells]
theorem quadCells_len (qs : List Quad) : (quadCells qs).length = qs.length * 4 := by
  have := flat_len (sz := 4) (css := qs.map qCells) (fun r hr => by obtain ⟨q, _, rfl⟩ := List.mem_map.1 hr; rfl)
  simpa [quadCells] using this
def Quads (lo hi : Nat) (w : World) (a : Option Addr) (c : Nat) (xs : List Quad) : Prop := Arr lo hi w 4 a c (xs.map qCells)
section
variable {lo hi : Nat} {w w' : World} {a : Option Addr} {c : Nat} {xs : List Quad}
theorem Quads.keep {F : Nat → Prop} (h : Quads lo hi w a c xs) (k : Keep F w w') (hF : ∀ b, lo ≤ b → b < hi → F b) : Quads lo hi w' a c xs := Arr.keep h k hF
theorem Quads.ext (h : Quads lo hi w a c xs) (k : Ext w w') : Quads lo hi w' a c xs := Arr.ext h k
theorem Quads.sto {b : Nat} {T : TypeId} {ds : List Value} (h : Quads lo hi w a c xs) (k : Sto w w' b T ds) (hb : b < lo ∨ hi ≤ b) : Quads lo hi w' a c xs := Arr.sto h k hb
theorem Quads.kx {b : Nat} (h : Quads lo hi w a c xs) (k : KX b w w') (hb : b < lo ∨ hi ≤ b) : Quads lo hi w' a c xs := Arr.kx h k hb
theorem Quads.rg {l r p q : Nat} (h : Quads lo hi w a c xs) (k : Rg l r p q w w') (hb : (hi ≤ l ∨ r ≤ lo ∨ (p ≤ lo ∧ hi ≤ q)) ∧ hi ≤ w.heap.size) : Quads lo hi w' a c xs := h.keep k fun b h1 h2 => by omega
theorem Quads.app {a' : Option Addr} {lo' sz' n' c' : Nat} {E : TypeId} {ds : List Value} (h : Quads lo hi w a c xs) (k : Apd w w' a') (o : Own lo' w E sz' a' n' c' ds) (hb : hi ≤ lo') : Quads lo hi w' a c xs := Arr.app h k o hb
theorem Quads.isSome (h : Quads lo hi w a c xs) (hn : 0 < xs.length) : a = some ⟨blkOf a, offOf a, none⟩ := Arr.isSome h (by decide) (by simpa using hn)
theorem Quads.cells (h : Quads lo hi w a c xs) {i : Nat} (hi' : i < xs.length) : ∀ j (hj : j < (qCells xs[i]).length), w.cell? ⟨blkOf a, offOf a + i * 4 + j, none⟩ = some (qCells xs[i])[j] := fun j hj =>
  Arr.cell h (r := qCells xs[i]) (by simp [List.getElem?_eq_getElem hi']) (List.getElem?_eq_getElem hj)
theorem Quads.cellsJ (h : Quads lo hi w a c xs) {i j : Nat} (hi' : i < xs.length) (hj : j = i) : ∀ k (hk : k < (qCells xs[i]).length), w.cell? ⟨blkOf a, offOf a + j * 4 + k, none⟩ = some (qCells xs[i])[k] := by subst hj; exact h.cells hi'
theorem Quads.cap (h : Quads lo hi w a c xs) : xs.length ≤ c := by simpa using Arr.cap h
end
theorem Quads.lo {l r b : Nat} {w w' : World} {a : Option Addr} {c : Nat} {xs : List Quad} (h : Quads l r w a c xs) (k : Lo b w w') (hb : r ≤ b) : Quads l r w' a c xs := h.keep k.2 fun i _ h2 => Nat.lt_of_lt_of_le h2 hb
theorem Own.quads {lo : Nat} {w : World} {E : TypeId} {a : Option Addr} {n c : Nat} {qs : List Quad} (h : Own lo w E 4 a n c (quadCells qs)) (hn : qs.length = n) : Quads lo w.heap.size w a c qs :=
  ⟨by have := h.cap.1; simpa [hn] using this, fun r hr => by obtain ⟨q, _, rfl⟩ := List.mem_map.1 hr; rfl, h.sat⟩

def fstE (v i : Nat) (e : Int × Int) : Prop := (v : Int) < e.1 ∨ ((v : Int) = e.1 ∧ (i : Int) ≤ e.2)
instance (v i : Nat) (e : Int × Int) : Decidable (fstE v i e) := by unfold fstE; infer_instance
def edR (v : Nat) (r : List (Int × Int)) : Nat → List Quad
  | 0 => []
  | k + 1 => match r[k]? with
    | some e => if fstE v k e then edR v r k ++ [((v : Int), (k : Int), e.1, e.2)] else edR v r k
    | none => edR v r k
def edN (ends : Ends) : Nat → List Quad
  | 0 => []
  | v + 1 => edN ends v ++ edR v (ends.getD v []) (ends.getD v []).length
def edL (ends : Ends) : List Quad := edN ends ends.length
theorem edR_yes {v k : Nat} {r : List (Int × Int)} (h : k < r.length) (hf : fstE v k r[k]) : edR v r (k + 1) = edR v r k ++ [((v : Int), (k : Int), r[k].1, r[k].2)] := by
  rw [edR, List.getElem?_eq_getElem h]; simp [hf]
theorem edR_no {v k : Nat} {r : List (Int × Int)} (h : k < r.length) (hf : ¬ fstE v k r[k]) : edR v r (k + 1) = edR v r k := by
  rw [edR, List.getElem?_eq_getElem h]; simp [hf]
theorem edR_len (v : Nat) (r : List (Int × Int)) : ∀ k, (edR v r k).length ≤ k := by
  intro k
  induction k with
  | zero => simp [edR]
  | succ k ih =>
    unfold edR
    split
    · split
      · rw [List.length_append]; simp only [List.length_cons, List.length_nil]; omega
      · omega
    · omega
theorem edN_succ {ends : Ends} {v : Nat} (h : v < ends.length) : edN ends (v + 1) = edN ends v ++ edR v ends[v] ends[v].length := by rw [edN, getD_eq h]
theorem edN_len {ends : Ends} {d : Nat} (hd : ∀ r ∈ ends, r.length ≤ d) : ∀ v, v ≤ ends.length → (edN ends v).length ≤ v * d := by
  intro v
  induction v with
  | zero => intro _; simp [edN]
  | succ v ih =>
    intro hv
    have hv' : v < ends.length := by omega
    rw [edN_succ hv', List.length_append]
    have h1 := ih (by omega)
    have h2 := edR_len v ends[v] ends[v].length
    have h3 := hd _ (List.getElem_mem hv')
    rw [Nat.add_mul]; omega
theorem edR_mem {v : Nat} {r : List (Int × Int)} {q : Quad} : ∀ k, k ≤ r.length → (q ∈ edR v r k ↔ ∃ i, ∃ h : i < r.length, i < k ∧ fstE v i r[i] ∧ q = ((v : Int), (i : Int), r[i].1, r[i].2)) := by
  intro k
  induction k with
  | zero => intro _; simp [edR]
  | succ k ih =>
    intro hk
    have hk' : k < r.length := by omega
    have ih := ih (by omega)
    by_cases hf : fstE v k r[k]
    · rw [edR_yes hk' hf, List.mem_append, ih, List.mem_singleton]
      constructor
      · rintro (⟨i, h, h1, h2, h3⟩ | h)
        · exact ⟨i, h, by omega, h2, h3⟩
        · exact ⟨k, hk', by omega, hf, h⟩
      · rintro ⟨i, h, h1, h2, h3⟩
        by_cases e : i = k
        · subst e; exact .inr h3
        · exact .inl ⟨i, h, by omega, h2, h3⟩
    · rw [edR_no hk' hf, ih]
      constructor
      · rintro ⟨i, h, h1, h2, h3⟩; exact ⟨i, h, by omega, h2, h3⟩
      · rintro ⟨i, h, h1, h2, h3⟩
        by_cases e : i = k
        · subst e; exact absurd h2 hf
        · exact ⟨i, h, by omega, h2, h3⟩
theorem edN_mem {ends : Ends} {q : Quad} : ∀ n, n ≤ ends.length → (q ∈ edN ends n ↔ ∃ v, ∃ hv : v < ends.length, v < n ∧ ∃ i, ∃ h : i < ends[v].length, fstE v i ends[v][i] ∧ q = ((v : Int), (i : Int), ends[v][i].1, ends[v][i].2)) := by
  intro n
  induction n with
  | zero => intro _; simp [edN]
  | succ n ih =>
    intro hn
    have hn' : n < ends.length := by omega
    rw [edN_succ hn', List.mem_append, ih (by omega), edR_mem _ (Nat.le_refl _)]
    constructor
    · rintro (⟨v, hv, h1, h2⟩ | ⟨i, h, h1, h2, h3⟩)
      · exact ⟨v, hv, by omega, h2⟩
      · exact ⟨n, hn', by omega, i, h, h2, h3⟩
    · rintro ⟨v, hv, h1, i, h, h2, h3⟩
      by_cases e : v = n
      · subst e; exact .inr ⟨i, h, h, h2, h3⟩
      · exact .inl ⟨v, hv, by omega, i, h, h2, h3⟩
theorem edL_mem {ends : Ends} {q : Quad} : q ∈ edL ends ↔ ∃ v, ∃ hv : v < ends.length, ∃ i, ∃ h : i < ends[v].length, fstE v i ends[v][i] ∧ q = ((v : Int), (i : Int), ends[v][i].1, ends[v][i].2) := by
  unfold edL
  rw [edN_mem _ (Nat.le_refl _)]
  exact ⟨fun ⟨v, hv, _, h⟩ => ⟨v, hv, h⟩, fun ⟨v, hv, h⟩ => ⟨v, hv, hv, h⟩⟩

/-! ### Colours -/
/-- The distance from the least node of the component, modulo 2. -/
def colL (ends : Ends) : List Int := (List.range ends.length).map fun (v : Nat) => (bfs ends ((prt ends).getD v 0)).getD v 0 % 2
theorem colL_len (ends : Ends) : (colL ends).length = ends.length := by simp [colL]
theorem colL_at {ends : Ends} {v : Nat} (h : v < (colL ends).length) {h2 : v < (prt ends).length} {h3 : v < (bfs ends (prt ends)[v]).length} : (bfs ends (prt ends)[v])[v] % 2 = (colL ends)[v] := by
  simp only [colL, List.getElem_map, List.getElem_range]
  rw [getD_eq h2, getD_eq h3]
/-- No edge joins two nodes of one colour. -/
def ColOk (ends : Ends) (C : List Int) : Prop := ∀ v (hv : v < ends.length), ∀ e ∈ ends[v], C.getD v 0 ≠ C.getD e.1.toNat 0
theorem colOk_edges {ends : Ends} {C : List Int} (hk : EndsOk ends) (hp : ∀ v (hv : v < ends.length) i (hi : i < ends[v].length), 0 ≤ ends[v][i].1 ∧ ∃ _h : ends[v][i].1.toNat < ends.length, 0 ≤ ends[v][i].2 ∧ ∃ _h2 : ends[v][i].2.toNat < ends[ends[v][i].1.toNat].length, ends[ends[v][i].1.toNat][ends[v][i].2.toNat] = ((v : Int), (i : Int)))
    (h : ∀ q ∈ edL ends, C.getD q.1.toNat 0 ≠ C.getD q.2.2.1.toNat 0) : ColOk ends C := by
  intro v hv e he
  obtain ⟨i, hi, rfl⟩ := List.mem_iff_getElem.1 he
  by_cases hf : fstE v i ends[v][i]
  · exact h _ (edL_mem.2 ⟨v, hv, i, hi, hf, rfl⟩)
  · obtain ⟨h1, h2, h3, h4, h5⟩ := hp v hv i hi
    have h6 := h _ (edL_mem.2 ⟨_, h2, _, h4, (by rw [h5]; unfold fstE at hf ⊢; simp only []; omega), rfl⟩)
    rw [h5] at h6
    simp only [Int.toNat_natCast] at h6
    exact fun e => h6 e.symm
theorem colOk_bad {ends : Ends} {C : List Int} (hc : ColOk ends C) : ∀ q ∈ edL ends, C.getD q.1.toNat 0 ≠ C.getD q.2.2.1.toNat 0 := by
  intro q hq
  obtain ⟨v, hv, i, hi, _, rfl⟩ := edL_mem.1 hq
  simpa using hc v hv _ (List.getElem_mem hi)
end Go.Proofs.YtdpdjbfjjlpfgaaGreatDoor
