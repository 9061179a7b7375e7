/- From the reading of an argument to what the walk is told of it: slices of ints, of pairs, of slices, structs. No condition. -/
import Derived.Test.YtdpdjbfjjlpfgaaGreatDoorFacts
import Derived.ProofKit
import Derived.Deep.SlicePairs
import Derived.OpenShut
import Derived.ShutString
import Derived.ChangeOld
namespace Go.Proofs.YtdpdjbfjjlpfgaaGreatDoor
open Go Go.RowKit Go.Deep

theorem i64_of_wf {n : Int} (h : (Lit.int .i64 n).wf = true) : I64 n := by
  have := bounds_i64 h
  exact this

theorem addr_none {w : World} {a : Addr} {v : Value} (h : w.cell? a = some v) : a = ⟨a.block, a.off, none⟩ := by
  have := World.cell?_spot h
  cases a
  simp at this
  simp [this]

theorem slice_inj {a a' : Option Addr} {n n' c c' : Nat} (h : Value.slice a n c = .slice a' n' c') : a = a' ∧ n = n' ∧ c = c' := by
  cases h; exact ⟨rfl, rfl, rfl⟩

theorem fieldAt {α : Type} {n : Nat} {l : List α} {x : Option α} (h : x = l[n]?) (hn : n < l.length) : ∃ y, x = some y := ⟨l[n], by rw [h]; exact List.getElem?_eq_getElem hn⟩

section
variable {H : Type} {enc : TypeId × Value → H} {P : Program} {w : World} {spare : Nat → Bool} {held : Bool} {fuel : Nat} {v : Value} {x : DataW H × List MemPlace}

/-- A slice of one-cell elements: what each reads as. -/
theorem open1 {α : Type} [Inhabited α] {t e : TypeId} (R : α → Value → Prop) (ht : P.underlying t = some (.slice e)) (hc : P.cellsOf e = 1) (hR : ∀ n v y, DataW.trod enc P w 0 spare held n e [v] = some y → ∃ a, R a v)
    (h : DataW.trod enc P w 0 spare held fuel t [v] = some x) :
    ∃ (a : Option Addr) (c : Nat) (xs : List α) (vs : List Value), v = .slice a xs.length c ∧ xs.length ≤ c ∧ xs.length ≤ maxLen ∧ vs.length = xs.length ∧ (∀ i (h : i < xs.length) (h' : i < vs.length), R xs[i] vs[i]) ∧ SAt 0 w.heap.size w a vs := by
  rcases open_slice1 ht hc h with ⟨hv, _⟩ | ⟨a, len, cap, m, n, V, D, Pl, hv, _, hl, hm, hmm, _, hx⟩
  · simp at hv
    exact ⟨none, 0, [], [], hv, by simp, by simp, rfl, fun i hi => by simp at hi, SAt.nil⟩
  · simp at hv
    have hlm : len ≤ m := by rw [hmm]; split <;> omega
    obtain ⟨f, hf⟩ := choose_lt (n := len) (p := fun i (y : α) => R y (V i)) (fun i hi => hR n (V i) _ (hx i (by omega)).2)
    refine ⟨some a, cap, (List.range len).map f, (List.range len).map V, by simp [hv], by simpa using hl, by simp; omega, by simp, fun i hi h' => ?_, ?_⟩
    · simp at hi ⊢; exact hf i hi
    · by_cases h0 : len = 0
      · subst h0; exact SAt.nil
      · have c0 := (hx 0 (by omega)).1
        have c0' : w.cell? a = some (V 0) := by simpa [Addr.add] using c0
        refine .inr ⟨a.block, a.off, by rw [← addr_none c0'], Nat.zero_le _, World.block_lt_of_cell? w a c0', fun i hi => ?_⟩
        simp at hi
        have ci := (hx i (by omega)).1
        have ha : a.add i = ⟨a.block, a.off + i, none⟩ := by
          rw [addr_none c0']; unfold Addr.add; split
          · rename_i h; subst h; rfl
          · rfl
        rw [ha] at ci
        simpa using ci

theorem openInts {t e : TypeId} (ht : P.underlying t = some (.slice e)) (hc : P.cellsOf e = 1) (he : P.underlying e = some (.int .i64)) (h : DataW.trod enc P w 0 spare held fuel t [v] = some x) :
    ∃ a c xs, v = .slice a xs.length c ∧ Ints 0 w.heap.size w a c xs ∧ (∀ x ∈ xs, I64 x) ∧ xs.length ≤ maxLen := by
  obtain ⟨a, c, xs, vs, hv, h1, h2, hl, hR, hs⟩ := open1 (α := Int) (fun n v => v = VI n ∧ I64 n) ht hc (fun n v y hy => by
    obtain ⟨k, hk, _, hw⟩ := DataW.trod_int he hy
    simp at hk
    exact ⟨k, hk, i64_of_wf hw⟩) h
  have hvs : vs = xs.map VI := by
    apply List.ext_getElem (by simp [hl])
    intro i h1 h2
    simp at h2
    simpa using (hR i h2 h1).1
  refine ⟨a, c, xs, hv, Ints.mk h1 (hvs ▸ hs), fun x hx => ?_, h2⟩
  obtain ⟨i, hi, rfl⟩ := List.mem_iff_getElem.1 hx
  exact (hR i hi (by omega)).2

theorem openPairs {t e : TypeId} {f0 f1 : Field} (ht : P.underlying t = some (.slice e)) (he : P.underlying e = some (.struct #[f0, f1])) (ce : P.cellsOf e = 2) (o0 : f0.offset = 0) (o1 : f1.offset = 1) (c0 : P.cellsOf f0.type = 1) (c1 : P.cellsOf f1.type = 1)
    (i0 : P.underlying f0.type = some (.int .i64)) (i1 : P.underlying f1.type = some (.int .i64)) (h : DataW.trod enc P w 0 spare held fuel t [v] = some x) :
    ∃ a c xs, v = .slice a xs.length c ∧ Pairs 0 w.heap.size w a c xs ∧ (∀ p ∈ xs, I64 p.1 ∧ I64 p.2) ∧ xs.length ≤ maxLen := by
  rcases open_slice_pairs ht he ce o0 o1 c0 c1 h with ⟨hv, _⟩ | ⟨a, len, cap, m, n, V0, V1, D0, D1, P0, P1, hv, _, hl, hm, hmm, _, hx⟩
  · simp at hv
    exact ⟨none, 0, [], hv, Pairs.nil, by simp, by simp⟩
  · simp at hv
    have hlm : len ≤ m := by rw [hmm]; split <;> omega
    obtain ⟨f, hf⟩ := choose_lt (n := len) (p := fun i (y : Int × Int) => V0 i = VI y.1 ∧ V1 i = VI y.2 ∧ I64 y.1 ∧ I64 y.2) (fun i hi => by
      obtain ⟨_, _, t0, t1⟩ := hx i (by omega)
      obtain ⟨k0, hk0, _, hw0⟩ := DataW.trod_int i0 t0
      obtain ⟨k1, hk1, _, hw1⟩ := DataW.trod_int i1 t1
      simp at hk0 hk1
      exact ⟨(k0, k1), hk0, hk1, i64_of_wf hw0, i64_of_wf hw1⟩)
    refine ⟨some a, cap, (List.range len).map f, by simp [hv], Pairs.mk (by simpa using hl) ?_, ?_, by simp; omega⟩
    · by_cases h0 : len = 0
      · subst h0; exact SAt.nil
      · have c0 := (hx 0 (by omega)).1
        have c0' : w.cell? a = some (V0 0) := by simpa [Addr.add] using c0
        have hadd : ∀ i, a.add i = ⟨a.block, a.off + i, none⟩ := fun i => by
          rw [addr_none c0']; unfold Addr.add; split
          · rename_i h; subst h; rfl
          · rfl
        refine .inr ⟨a.block, a.off, by rw [← addr_none c0'], Nat.zero_le _, World.block_lt_of_cell? w a c0', fun j hj => ?_⟩
        rw [pairCells_length] at hj
        simp at hj
        have hi : j / 2 < len := by omega
        obtain ⟨e0, e1, _, _⟩ := hx (j / 2) (by omega)
        obtain ⟨g0, g1, _, _⟩ := hf (j / 2) hi
        rw [hadd] at e0 e1
        have hrow : ((List.range len).map f |>.map fun p => [VI p.1, VI p.2])[j / 2]? = some [VI (f (j / 2)).1, VI (f (j / 2)).2] := by
          simp [hi]
        have hlen : ∀ r ∈ ((List.range len).map f |>.map fun p => [VI p.1, VI p.2]), r.length = 2 := fun r hr => by obtain ⟨p, _, rfl⟩ := List.mem_map.1 hr; rfl
        rcases Nat.mod_two_eq_zero_or_one j with hj2 | hj2
        · have := flat_get hlen hrow (j := 0) (v := VI (f (j / 2)).1) rfl
          rw [show j / 2 * 2 + 0 = j by omega] at this
          have e : (pairCells ((List.range len).map f))[j]? = some (VI (f (j / 2)).1) := this
          rw [List.getElem?_eq_getElem (by rw [pairCells_length]; simp; omega)] at e
          simp only [Option.some.injEq] at e
          rw [e, show a.off + j = a.off + j / 2 * 2 by omega, e0, g0]
        · have := flat_get hlen hrow (j := 1) (v := VI (f (j / 2)).2) rfl
          rw [show j / 2 * 2 + 1 = j by omega] at this
          have e : (pairCells ((List.range len).map f))[j]? = some (VI (f (j / 2)).2) := this
          rw [List.getElem?_eq_getElem (by rw [pairCells_length]; simp; omega)] at e
          simp only [Option.some.injEq] at e
          rw [e, show a.off + j = a.off + (j / 2 * 2 + 1) by omega, e1, g1]
    · intro p hp
      obtain ⟨i, hi, rfl⟩ := List.mem_map.1 hp
      have := hf i (List.mem_range.1 hi)
      exact ⟨this.2.2.1, this.2.2.2⟩

/-- A slice of slices. -/
theorem openLls {α : Type} {t e : TypeId} (R : Nat → Nat → World → Option Addr → Nat → List α → Prop) (Q : List α → Prop) (ht : P.underlying t = some (.slice e)) (hc : P.cellsOf e = 1)
    (hR : ∀ n v y, DataW.trod enc P w 0 spare held n e [v] = some y → ∃ a c xs, v = .slice a xs.length c ∧ R 0 w.heap.size w a c xs ∧ Q xs) (h : DataW.trod enc P w 0 spare held fuel t [v] = some x) :
    ∃ a c xss, v = .slice a xss.length c ∧ Lls R 0 w.heap.size w a c xss ∧ (∀ xs ∈ xss, Q xs) ∧ xss.length ≤ maxLen := by
  obtain ⟨a, c, ys, vs, hv, h1, h2, hl, hR', hs⟩ := open1 (α := Option Addr × Nat × List α) (fun y v => v = .slice y.1 y.2.2.length y.2.1 ∧ R 0 w.heap.size w y.1 y.2.1 y.2.2 ∧ Q y.2.2) ht hc (fun n v y hy => by
    obtain ⟨a, c, xs, hv, hr, hq⟩ := hR n v y hy
    exact ⟨(a, c, xs), hv, hr, hq⟩) h
  refine ⟨a, c, ys.map (·.2.2), by simpa using hv, ⟨ys.map (fun y => (y.1, y.2.1)), by simp, ⟨by simpa using h1, fun r hr => by obtain ⟨p, _, rfl⟩ := List.mem_map.1 hr; rfl, ?_⟩, fun i hi h' => ?_⟩, fun xs hxs => ?_, by simpa using h2⟩
  · have : (((ys.map (fun y => (y.1, y.2.1))).zip (ys.map (·.2.2))).map fun p => rowCells p.1 p.2).flatten = vs := by
      have e : ((ys.map (fun y => (y.1, y.2.1))).zip (ys.map (·.2.2))).map (fun p => rowCells p.1 p.2) = vs.map fun v => [v] := by
        apply List.ext_getElem (by simp [hl])
        intro i h1 h2
        simp at h1 h2
        have := (hR' i (by omega) h2).1
        simp [this, rowCells]
      rw [e]
      clear e hR' hs h hv h1 h2 hl
      induction vs with
      | nil => rfl
      | cons v r ih => simp [ih]
    rw [this]
    exact hs
  · simp at hi ⊢
    exact (hR' i hi (by omega)).2.1
  · obtain ⟨y, hy, rfl⟩ := List.mem_map.1 hxs
    obtain ⟨i, hi, rfl⟩ := List.mem_iff_getElem.1 hy
    exact (hR' i hi (by omega)).2.2
end
end Go.Proofs.YtdpdjbfjjlpfgaaGreatDoor
