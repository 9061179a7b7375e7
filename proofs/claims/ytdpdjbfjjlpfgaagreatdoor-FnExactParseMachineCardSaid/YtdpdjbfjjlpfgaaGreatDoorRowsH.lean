/- Rows that a call owns, in a slice that it owns: a result [][]int. No condition. -/
import Derived.Test.YtdpdjbfjjlpfgaaGreatDoorMore
namespace Go.Proofs.YtdpdjbfjjlpfgaaGreatDoor
open Go Go.RowKit

theorem Rg.app {lo hi p q : Nat} {w0 w w' : World} {a : Option Addr} (h : Rg lo hi p q w0 w) (k : Apd w w' a) (hb : ∀ x, a = some x → (lo ≤ x.block ∧ x.block < hi ∧ (q ≤ p ∨ x.block < p ∨ q ≤ x.block)) ∨ w0.heap.size ≤ x.block) : Rg lo hi p q w0 w' :=
  Keep.trans h (k.mono fun i hi' => ⟨Nat.lt_of_lt_of_le hi'.1 h.size, fun x hx => by have := hb x hx; have := hi'.1; have := hi'.2; omega⟩)
/-- A slice of rows: the slice and each row owned, all in blocks of [l, r), no two of them in one block. -/
structure RowsAt (l r : Nat) (w : World) (E F : TypeId) (a : Option Addr) (c : Nat) (vs : List (Option Addr × Nat)) (xss : List (List Int)) : Prop where
  len : vs.length = xss.length
  out : Own l w F 1 a xss.length c ((vs.zip xss).map fun p => rowVal p.1 p.2)
  otop : ∀ p, a = some p → p.block < r
  row : ∀ i (h1 : i < vs.length) (h2 : i < xss.length), Own l w E 1 vs[i].1 xss[i].length vs[i].2 (xss[i].map VI)
  top : ∀ i (h1 : i < vs.length) p, vs[i].1 = some p → p.block < r
  sep : ∀ i j (h1 : i < vs.length) (h2 : j < vs.length), i ≠ j → ∀ p q, vs[i].1 = some p → vs[j].1 = some q → p.block ≠ q.block
  osep : ∀ i (h1 : i < vs.length) p q, a = some p → vs[i].1 = some q → p.block ≠ q.block
def RowsH (l r : Nat) (w : World) (E : TypeId) (a : Option Addr) (c : Nat) (xss : List (List Int)) : Prop := ∃ F vs, RowsAt l r w E F a c vs xss
section
variable {l r : Nat} {w w' : World} {E F : TypeId} {a : Option Addr} {c : Nat} {vs : List (Option Addr × Nat)} {xss : List (List Int)}
theorem RowsAt.keep {G : Nat → Prop} (h : RowsAt l r w E F a c vs xss) (k : Keep G w w') (hG : ∀ b, l ≤ b → b < r → G b) : RowsAt l r w' E F a c vs xss :=
  ⟨h.len, h.out.keep k fun p hp => hG _ (h.out.block p hp).1 (h.otop p hp), h.otop, fun i h1 h2 => (h.row i h1 h2).keep k fun p hp => hG _ ((h.row i h1 h2).block p hp).1 (h.top i h1 p hp), h.top, h.sep, h.osep⟩
theorem RowsAt.ext (h : RowsAt l r w E F a c vs xss) (k : Ext w w') : RowsAt l r w' E F a c vs xss := ⟨h.len, h.out.ext k, h.otop, fun i h1 h2 => (h.row i h1 h2).ext k, h.top, h.sep, h.osep⟩
theorem RowsH.keep {G : Nat → Prop} (h : RowsH l r w E a c xss) (k : Keep G w w') (hG : ∀ b, l ≤ b → b < r → G b) : RowsH l r w' E a c xss := by obtain ⟨F, vs, h⟩ := h; exact ⟨F, vs, h.keep k hG⟩
theorem RowsH.ext (h : RowsH l r w E a c xss) (k : Ext w w') : RowsH l r w' E a c xss := by obtain ⟨F, vs, h⟩ := h; exact ⟨F, vs, h.ext k⟩
theorem RowsH.sto {g : Nat} {T : TypeId} {ds : List Value} (h : RowsH l r w E a c xss) (k : Sto w w' g T ds) (hb : g < l ∨ r ≤ g) : RowsH l r w' E a c xss := h.keep k.keep fun b h1 h2 => by show b ≠ g; omega
theorem RowsH.rg {lo hi p q : Nat} (h : RowsH l r w E a c xss) (k : Rg lo hi p q w w') (hb : (r ≤ lo ∨ hi ≤ l ∨ (p ≤ l ∧ r ≤ q)) ∧ r ≤ w.heap.size) : RowsH l r w' E a c xss := h.keep k fun b h1 h2 => ⟨by omega, by omega⟩
theorem RowsH.mrk {x y : Nat} (h : RowsH l r w E a c xss) (k : Mk x y w w') (hb : (y ≤ l ∨ r ≤ x) ∧ r ≤ w.heap.size) : RowsH l r w' E a c xss := h.keep k.keep fun b h1 h2 => ⟨by omega, by omega⟩
theorem RowsH.up {l' r' : Nat} (h : RowsH l r w E a c xss) (hl : l' ≤ l) (hr : r ≤ r') : RowsH l' r' w E a c xss := by
  obtain ⟨F, vs, h⟩ := h
  exact ⟨F, vs, h.len, h.out.mono hl, fun p hp => Nat.lt_of_lt_of_le (h.otop p hp) hr, fun i h1 h2 => (h.row i h1 h2).mono hl, fun i h1 p hp => Nat.lt_of_lt_of_le (h.top i h1 p hp) hr, h.sep, h.osep⟩
theorem RowsH.nil : RowsH l r w E none 0 [] := ⟨E, [], rfl, Own.nil _ _ _ _, fun p hp => (by cases hp), fun i h1 => absurd h1 (Nat.not_lt_zero _), fun i h1 => absurd h1 (Nat.not_lt_zero _), fun i j h1 => absurd h1 (Nat.not_lt_zero _), fun i h1 => absurd h1 (Nat.not_lt_zero _)⟩
/-- A row's contents are changed in place. -/
theorem RowsAt.set (h : RowsAt l r w E F a c vs xss) {i : Nat} (h1 : i < vs.length) (h2 : i < xss.length) {ys : List Int} (hl : ys.length = xss[i].length) (k : Apd w w' vs[i].1) (o : Own l w' E 1 vs[i].1 xss[i].length vs[i].2 (ys.map VI)) (hr : r ≤ w.heap.size) : RowsAt l r w' E F a c vs (xss.set i ys) := by
  have e : ((vs.zip (xss.set i ys)).map fun p => rowVal p.1 p.2) = (vs.zip xss).map fun p => rowVal p.1 p.2 := by
    refine List.ext_getElem (by simp) fun j h3 h4 => ?_
    simp only [List.getElem_map, List.getElem_zip, rowVal]
    by_cases hj : i = j
    · subst hj; rw [List.getElem_set_self, hl]
    · rw [List.getElem_set_ne hj]
  refine ⟨by simp [h.len], ?_, h.otop, fun j h3 h4 => ?_, h.top, h.sep, h.osep⟩
  · rw [e, List.length_set]
    exact h.out.keep k fun p hp => ⟨by have := h.otop p hp; omega, fun q hq => h.osep i h1 p q hp hq⟩
  · by_cases hj : i = j
    · subst hj; simp only [List.getElem_set_self]; rw [hl]; exact o
    · simp only [List.getElem_set_ne hj]
      exact (h.row j h3 (by simpa using h4)).keep k fun p hp => ⟨by have := h.top j h3 p hp; omega, fun q hq => h.sep j i h3 h1 (Ne.symm hj) p q hp hq⟩
theorem RowsH.is (h : RowsH l r w E a c xss) : Intss l r w a c xss := by
  obtain ⟨F, vs, h⟩ := h
  have hl := h.len
  have hc := h.out.cap.1
  refine ⟨vs, hl, ⟨by simp [hl]; omega, fun r hr => by obtain ⟨p, _, rfl⟩ := List.mem_map.1 hr; rfl, ?_⟩, fun i hi1 hi2 => ?_⟩
  · have e : (((vs.zip xss).map fun p => rowCells p.1 p.2)).flatten = (vs.zip xss).map fun p => rowVal p.1 p.2 := by
      generalize vs.zip xss = l
      induction l with
      | nil => rfl
      | cons x r ih => simp [rowCells, rowVal] at ih ⊢; exact ih
    rw [e]
    exact h.out.sat.hi h.otop
  · have hi3 : i < vs.length := by omega
    have ho := h.row i hi3 hi1
    exact (Ints.of_owned (E := E) (by rw [intF_flat]; exact ho)).hi (h.top i hi3)
theorem RowsH.of_orows {b : Nat} (h : ORows intF 1 l r w E b xss) (hc : xss.length ≤ maxLen) : RowsH l r w E (some ⟨b, 0, none⟩) xss.length xss := by
  obtain ⟨T, vs, h1, h2, h3, h4⟩ := h
  refine ⟨T, vs, h4.len, Own.of_blk (rest := []) (by rw [List.append_nil]; exact h3) h1 (Nat.le_refl _) hc (by simp [h4.len]) (by simp [h4.len]), fun p hp => by cases hp; exact h2, fun i h5 h6 => ?_, fun i h5 p hp => h4.top i h5 p hp, h4.sep, fun i h5 p q hp hq => ?_⟩
  · have := (h4.own i h5 h6).mono (show l ≤ b + 1 by omega)
    rw [intF_flat] at this; exact this
  · cases hp
    have := ((h4.own i h5 (by rw [← h4.len]; exact h5)).block q hq).1
    show b ≠ q.block
    omega
/-- One row more: the slice was appended to. -/
theorem RowsAt.snoc (h : RowsAt l r w E F a c vs xss) {a' a2 : Option Addr} {c' c2 : Nat} {ys : List Int} (hy : Own l w E 1 a2 ys.length c2 (ys.map VI)) (hn : ∀ q, a2 = some q → r ≤ q.block) (k : Apd w w' a) (o : Own l w' F 1 a' (xss.length + 1) c' ((vs.zip xss).map (fun p => rowVal p.1 p.2) ++ [.slice a2 ys.length c2]))
    (fr : ∀ q, a' = some q → (∃ p, a = some p ∧ q.block = p.block) ∨ w.heap.size ≤ q.block) (hr : r ≤ w.heap.size) : RowsAt l w'.heap.size w' E F a' c' (vs ++ [(a2, c2)]) (xss ++ [ys]) := by
  have hks := k.size
  have hl := h.len
  have hy2 : Own l w' E 1 a2 ys.length c2 (ys.map VI) := hy.keep k fun q hq => ⟨(hy.block q hq).2, fun p hp => by have := h.otop p hp; have := hn q hq; omega⟩
  have rowk : ∀ i (h1 : i < vs.length) (h2 : i < xss.length), Own l w' E 1 vs[i].1 xss[i].length vs[i].2 (xss[i].map VI) := fun i h1 h2 => (h.row i h1 h2).keep k fun q hq => ⟨((h.row i h1 h2).block q hq).2, fun p hp => Ne.symm (h.osep i h1 p q hp hq)⟩
  have old : ∀ i (h1 : i < vs.length) q, vs[i].1 = some q → q.block < r := h.top
  refine ⟨by simp [hl], ?_, fun p hp => (o.block p hp).2, fun i h1 h2 => ?_, fun i h1 p hp => ?_, fun i j h1 h2 hne p q hp hq => ?_, fun i h1 p q hp hq => ?_⟩
  · rw [List.zip_append hl, List.map_append, List.length_append]; exact o
  · by_cases hi : i < vs.length
    · simp only [List.getElem_append_left hi, List.getElem_append_left (show i < xss.length by omega)]; exact rowk i hi (by omega)
    · have e : i = vs.length := by simp at h1; omega
      subst e
      simp only [List.getElem_append_right (Nat.le_refl _), List.getElem_append_right (show xss.length ≤ vs.length by omega)]
      simpa [hl] using hy2
  · by_cases hi : i < vs.length
    · rw [List.getElem_append_left hi] at hp; have := old i hi p hp; omega
    · have e : i = vs.length := by simp at h1; omega
      subst e
      simp at hp; exact (hy2.block p hp).2
  · by_cases hi : i < vs.length <;> by_cases hj : j < vs.length
    · rw [List.getElem_append_left hi] at hp; rw [List.getElem_append_left hj] at hq; exact h.sep i j hi hj hne p q hp hq
    · have e : j = vs.length := by simp at h2; omega
      subst e
      rw [List.getElem_append_left hi] at hp; simp at hq
      have := old i hi p hp; have := hn q hq; omega
    · have e : i = vs.length := by simp at h1; omega
      subst e
      rw [List.getElem_append_left hj] at hq; simp at hp
      have := old j hj q hq; have := hn p hp; omega
    · simp at h1 h2; omega
  · by_cases hi : i < vs.length
    · rw [List.getElem_append_left hi] at hq
      rcases fr p hp with ⟨z, hz, e⟩ | hge
      · rw [e]; exact h.osep i hi z q hz hq
      · have := old i hi q hq; omega
    · have e : i = vs.length := by simp at h1; omega
      subst e
      simp at hq
      have h5 := hn q hq
      rcases fr p hp with ⟨z, hz, e⟩ | hge
      · have := h.otop z hz; omega
      · have := (hy.block q hq).2; omega
end
end Go.Proofs.YtdpdjbfjjlpfgaaGreatDoor
