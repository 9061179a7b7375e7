/- From the reading of an argument that is a struct, or a slice of clauses, to what the walk is told of it. No condition. -/
import Derived.Test.YtdpdjbfjjlpfgaaGreatDoorOpen
import Derived.Lib.SmallJoins
namespace Go.Proofs.YtdpdjbfjjlpfgaaGreatDoor
open Go Go.RowKit Go.Deep

theorem array3' {α : Type} {a : Array α} (h : a.size = 3) : ∃ x0 x1 x2, a = #[x0, x1, x2] := by
  obtain ⟨l⟩ := a
  match l, h with
  | [x0, x1, x2], _ => exact ⟨x0, x1, x2, rfl⟩
theorem array7 {α : Type} {a : Array α} (h : a.size = 7) : ∃ x0 x1 x2 x3 x4 x5 x6, a = #[x0, x1, x2, x3, x4, x5, x6] := by
  obtain ⟨l⟩ := a
  match l, h with
  | [x0, x1, x2, x3, x4, x5, x6], _ => exact ⟨x0, x1, x2, x3, x4, x5, x6, rfl⟩

section
variable {H : Type} {enc : TypeId × Value → H} {P : Program} {w : World} {spare : Nat → Bool} {held : Bool} {fuel : Nat} {v : Value} {x : DataW H × List MemPlace}
/-- A field of one cell of a struct that came in. -/
theorem field1 {fs : Array Field} {cs : List Value} {xs : List (DataW H × List MemPlace)} {n base : Nat}
    (hg : ∀ (i : Nat) (f : Field), fs[i]? = some f → DataW.trod enc P w base spare held n f.type ((cs.drop f.offset).take (P.cellsOf f.type)) = xs[i]?) (i : Nat) {f : Field} (hf : fs[i]? = some f) (hl : i < xs.length) (hc : P.cellsOf f.type = 1)
    {v : Value} (hv : cs[f.offset]? = some v) : ∃ y, DataW.trod enc P w base spare held n f.type [v] = some y := by
  have h := hg i f hf
  rw [hc, List.getElem?_eq_getElem hl] at h
  have e : (cs.drop f.offset).take 1 = [v] := by
    have hlt : f.offset < cs.length := by
      rcases Nat.lt_or_ge f.offset cs.length with h | h
      · exact h
      · rw [List.getElem?_eq_none h] at hv; cases hv
    rw [List.drop_eq_getElem_cons hlt]
    rw [List.getElem?_eq_getElem hlt] at hv
    simp at hv
    simp [hv]
  rw [e] at h
  exact ⟨_, h⟩
theorem openClauses {t e te : TypeId} {f0 f1 f2 : Field} (ht : P.underlying t = some (.slice e)) (he : P.underlying e = some (.struct #[f0, f1, f2])) (ce : P.cellsOf e = 3)
    (ho : (f0.offset, f1.offset, f2.offset, P.cellsOf f0.type, P.cellsOf f1.type, P.cellsOf f2.type) = (0, 1, 2, 1, 1, 1)) (i0 : P.underlying f0.type = some (.int .i64)) (i1 : P.underlying f1.type = some (.slice te)) (ie : P.underlying te = some (.int .i64)) (ce' : P.cellsOf te = 1)
    (i2 : P.underlying f2.type = some (.int .i64)) (h : DataW.trod enc P w 0 spare held fuel t [v] = some x) :
    ∃ a c xs, v = .slice a xs.length c ∧ Clauses 0 w.heap.size w a c xs ∧ (∀ p ∈ xs, (I64 p.1 ∧ I64 p.2.2 ∧ ∀ x ∈ p.2.1, I64 x) ∧ p.2.1.length ≤ maxLen) ∧ xs.length ≤ maxLen := by
  simp only [Prod.mk.injEq] at ho
  obtain ⟨o0, o1, o2, c0, c1, c2⟩ := ho
  rcases open_slice ht h with ⟨hv, _⟩ | ⟨a, len, cap, m, n, D, Pl, hv, _, hl, hm, hmm, _, hx⟩
  · simp at hv
    exact ⟨none, 0, [], hv, Nest.nil, by simp, by simp⟩
  · simp at hv
    have hlm : len ≤ m := by rw [hmm]; split <;> omega
    obtain ⟨f, hf⟩ := choose_lt (n := len) (p := fun i (y : (Option Addr × Nat) × Cl) => (∀ j, j < 3 → w.cell? (a.add (i * 3 + j)) = (clCells y.1 y.2)[j]?) ∧ Ints 0 w.heap.size w y.1.1 y.1.2 y.2.2.1 ∧ (I64 y.2.1 ∧ I64 y.2.2.2 ∧ ∀ x ∈ y.2.2.1, I64 x) ∧ y.2.2.1.length ≤ maxLen) (fun i hi => by
      obtain ⟨cs', h1, h2⟩ := hx i (by omega)
      rw [ce] at h1
      obtain ⟨_, hlen, hcell⟩ := World.cells?_some h1
      obtain ⟨xs, k, hk, hxy, _, hxl, hf⟩ := DataW.trod_struct he h2
      match xs, hxl, cs', hlen with
      | [y0, y1, y2], _, [v0, v1, v2], _ =>
        have g0 := hf 0 f0 rfl
        have g1 := hf 1 f1 rfl
        have g2 := hf 2 f2 rfl
        simp [o0, o1, o2, c0, c1, c2] at g0 g1 g2
        obtain ⟨k0, hk0, _, hw0⟩ := DataW.trod_int i0 g0
        obtain ⟨k2, hk2, _, hw2⟩ := DataW.trod_int i2 g2
        obtain ⟨a', c', zs, hz, hzi, hzr, hzm⟩ := openInts i1 ce' ie g1
        simp at hk0 hk2
        subst hk0 hk2 hz
        refine ⟨((a', c'), (k0, zs, k2)), fun j hj => ?_, hzi, ⟨i64_of_wf hw0, i64_of_wf hw2, hzr⟩, hzm⟩
        have := hcell j hj
        rw [add_add] at this
        exact this)
    refine ⟨some a, cap, (List.range len).map fun i => (f i).2, by simp [hv], ⟨(List.range len).map fun i => (f i).1, by simp, ⟨by simpa using hl, fun r hr => by obtain ⟨p, _, rfl⟩ := List.mem_map.1 hr; rfl, ?_⟩, fun i hi h' => ?_⟩, ?_, by simp; omega⟩
    · by_cases h0 : len = 0
      · subst h0; exact SAt.nil
      · have e0 := (hf 0 (by omega)).1 0 (by omega)
        have c0' : w.cell? a = some (VI (f 0).2.1) := by simpa [Addr.add, clCells] using e0
        have hadd : ∀ i, a.add i = ⟨a.block, a.off + i, none⟩ := fun i => by
          rw [addr_none c0']; unfold Addr.add; split
          · rename_i h; subst h; rfl
          · rfl
        refine .inr ⟨a.block, a.off, by rw [← addr_none c0'], Nat.zero_le _, World.block_lt_of_cell? w a c0', fun j hj => ?_⟩
        have hzip : (((List.range len).map fun i => (f i).1).zip ((List.range len).map fun i => (f i).2)).map (fun p => clCells p.1 p.2) = (List.range len).map fun i => clCells (f i).1 (f i).2 := by
          apply List.ext_getElem (by simp)
          intro i h1 h2
          simp
        have hlenr : ∀ r ∈ ((List.range len).map fun i => clCells (f i).1 (f i).2), r.length = 3 := fun r hr => by obtain ⟨p, _, rfl⟩ := List.mem_map.1 hr; rfl
        rw [List.getElem_of_eq (congrArg List.flatten hzip)]
        have hj' : j < len * 3 := by
          have := hj
          rw [hzip, flat_len hlenr] at this
          simpa using this
        have hi : j / 3 < len := by omega
        have e := (hf (j / 3) hi).1 (j % 3) (by omega)
        rw [hadd, show j / 3 * 3 + j % 3 = j by omega] at e
        have hr : ((List.range len).map fun i => clCells (f i).1 (f i).2)[j / 3]? = some (clCells (f (j / 3)).1 (f (j / 3)).2) := by simp [hi]
        have hlt : j % 3 < (clCells (f (j / 3)).1 (f (j / 3)).2).length := by simp [clCells]; omega
        have := flat_get hlenr hr (List.getElem?_eq_getElem hlt)
        rw [show j / 3 * 3 + j % 3 = j by omega] at this
        rw [e, List.getElem?_eq_getElem hlt, ← this]
        exact List.getElem?_eq_getElem _
    · simp at hi ⊢
      exact (hf i hi).2.1
    · intro p hp
      obtain ⟨i, hi, rfl⟩ := List.mem_map.1 hp
      exact (hf i (List.mem_range.1 hi)).2.2
end
end Go.Proofs.YtdpdjbfjjlpfgaaGreatDoor
