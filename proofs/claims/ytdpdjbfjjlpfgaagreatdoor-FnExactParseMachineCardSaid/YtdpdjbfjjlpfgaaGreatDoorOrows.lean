/- Rows that a call owns, each in a block of its own: what append grows in place. No condition. -/
import Derived.Test.YtdpdjbfjjlpfgaaGreatDoorFacts
namespace Go.Proofs.YtdpdjbfjjlpfgaaGreatDoor
open Go Go.RowKit

/-- Row i is owned, in [lo, hi), and no two rows share a block. -/
structure OwnAll {α : Type} (f : α → List Value) (sz lo hi : Nat) (w : World) (E : TypeId) (vs : List (Option Addr × Nat)) (xss : List (List α)) : Prop where
  len : vs.length = xss.length
  own : ∀ i (h1 : i < vs.length) (h2 : i < xss.length), Own lo w E sz vs[i].1 xss[i].length vs[i].2 (xss[i].flatMap f)
  top : ∀ i (h1 : i < vs.length) p, vs[i].1 = some p → p.block < hi
  sep : ∀ i j (h1 : i < vs.length) (h2 : j < vs.length), i ≠ j → ∀ p q, vs[i].1 = some p → vs[j].1 = some q → p.block ≠ q.block
section
variable {α : Type} {f : α → List Value} {sz lo hi : Nat} {w w' : World} {E : TypeId} {vs : List (Option Addr × Nat)} {xss : List (List α)}
theorem OwnAll.keep {F : Nat → Prop} (h : OwnAll f sz lo hi w E vs xss) (k : Keep F w w') (hF : ∀ b, lo ≤ b → b < hi → F b) : OwnAll f sz lo hi w' E vs xss :=
  ⟨h.len, fun i h1 h2 => (h.own i h1 h2).keep k fun q hq => hF _ ((h.own i h1 h2).block q hq).1 (h.top i h1 q hq), h.top, h.sep⟩
theorem OwnAll.ext (h : OwnAll f sz lo hi w E vs xss) (k : Ext w w') : OwnAll f sz lo hi w' E vs xss := ⟨h.len, fun i h1 h2 => (h.own i h1 h2).ext k, h.top, h.sep⟩
theorem OwnAll.mono {lo' hi' : Nat} (h : OwnAll f sz lo hi w E vs xss) (h1 : lo' ≤ lo) (h2 : hi ≤ hi') : OwnAll f sz lo' hi' w E vs xss := ⟨h.len, fun i h3 h4 => (h.own i h3 h4).mono h1, fun i h3 p hp => Nat.lt_of_lt_of_le (h.top i h3 p hp) h2, h.sep⟩
theorem OwnAll.nils (n : Nat) : OwnAll f sz lo hi w E (List.replicate n (none, 0)) (List.replicate n []) :=
  ⟨by simp, fun i h1 h2 => by simpa using Own.nil lo w E sz, fun i h1 p hp => by simp at hp, fun i j h1 h2 _ p q hp => by simp at hp⟩
theorem OwnAll.step (h : OwnAll f sz lo hi w E vs xss) {i : Nat} (hi1 : i < vs.length) {a' : Option Addr} {c' : Nat} {ys : List α} (k : Apd w w' vs[i].1) (o : Own lo w' E sz a' ys.length c' (ys.flatMap f))
    (fr : ∀ q, a' = some q → (∃ p, vs[i].1 = some p ∧ q.block = p.block) ∨ w.heap.size ≤ q.block) (hh : hi ≤ w.heap.size) : OwnAll f sz lo w'.heap.size w' E (vs.set i (a', c')) (xss.set i ys) := by
  have hks := k.size
  have far : ∀ j (hj : j < vs.length) (q p : Addr), j ≠ i → a' = some q → vs[j].1 = some p → q.block ≠ p.block := by
    intro j hj q p hne hq hp
    rcases fr q hq with ⟨p0, hp0, e⟩ | hge
    · rw [e]; exact h.sep i j hi1 hj (Ne.symm hne) p0 p hp0 hp
    · have := h.top j hj p hp; omega
  refine ⟨by simp [h.len], fun j h1 h2 => ?_, fun j h1 p hp => ?_, fun j1 j2 h1 h2 hne p q hp hq => ?_⟩
  · simp only [List.length_set] at h1 h2
    by_cases hj : j = i
    · subst hj; simp only [List.getElem_set_self]; exact o
    · simp only [List.getElem_set_ne (Ne.symm hj)]
      exact (h.own j h1 h2).keep k fun q hq => ⟨((h.own j h1 h2).block q hq).2, fun p hp => h.sep j i h1 hi1 hj q p hq hp⟩
  · simp only [List.length_set] at h1
    by_cases hj : j = i
    · subst hj; simp only [List.getElem_set_self] at hp; exact (o.block p hp).2
    · simp only [List.getElem_set_ne (Ne.symm hj)] at hp
      have := h.top j h1 p hp
      omega
  · simp only [List.length_set] at h1 h2
    by_cases hj1 : j1 = i
    · subst hj1
      simp only [List.getElem_set_self] at hp
      simp only [List.getElem_set_ne hne] at hq
      exact far j2 (by simpa using h2) p q (Ne.symm hne) hp hq
    · simp only [List.getElem_set_ne (Ne.symm hj1)] at hp
      by_cases hj2 : j2 = i
      · subst hj2
        simp only [List.getElem_set_self] at hq
        exact (far j1 (by simpa using h1) q p hj1 hq hp).symm
      · simp only [List.getElem_set_ne (Ne.symm hj2)] at hq
        exact h.sep j1 j2 h1 h2 hne p q hp hq
end

/-- An owned slice whose block lies below hi. -/
def OwnT (lo hi : Nat) (w : World) (E : TypeId) (sz : Nat) (a : Option Addr) (n c : Nat) (cs : List Value) : Prop := Own lo w E sz a n c cs ∧ ∀ q, a = some q → q.block < hi
section
variable {lo hi : Nat} {w w' : World} {E : TypeId} {sz n c : Nat} {a : Option Addr} {cs : List Value}
theorem Own.t (h : Own lo w E sz a n c cs) : OwnT lo w.heap.size w E sz a n c cs := ⟨h, fun q hq => (h.block q hq).2⟩
theorem OwnT.ext (h : OwnT lo hi w E sz a n c cs) (k : Ext w w') : OwnT lo hi w' E sz a n c cs := ⟨h.1.ext k, h.2⟩
theorem OwnT.sto {b : Nat} {T : TypeId} {ds : List Value} (h : OwnT lo hi w E sz a n c cs) (k : Sto w w' b T ds) (hb : b < lo ∨ hi ≤ b) : OwnT lo hi w' E sz a n c cs :=
  ⟨h.1.keep k.keep fun q hq => by have h1 := (h.1.block q hq).1; have h2 := h.2 q hq; show q.block ≠ b; omega, h.2⟩
end
def rowVal {α : Type} (v : Option Addr × Nat) (x : List α) : Value := .slice v.1 x.length v.2
/-- A block of rows, each owned. -/
def ORows {α : Type} (f : α → List Value) (sz lo hi : Nat) (w : World) (E : TypeId) (b : Nat) (xss : List (List α)) : Prop :=
  ∃ (T : TypeId) (vs : List (Option Addr × Nat)), lo ≤ b ∧ b < hi ∧ Blk w b T ((vs.zip xss).map fun p => rowVal p.1 p.2) ∧ OwnAll f sz (b + 1) hi w E vs xss
section
variable {α : Type} {f : α → List Value} {sz lo hi : Nat} {w w' : World} {E : TypeId} {b : Nat} {xss : List (List α)}
theorem ORows.keep {F : Nat → Prop} (h : ORows f sz lo hi w E b xss) (k : Keep F w w') (hF : ∀ b, lo ≤ b → b < hi → F b) : ORows f sz lo hi w' E b xss := by
  obtain ⟨T, vs, h1, h2, h3, h4⟩ := h
  exact ⟨T, vs, h1, h2, h3.keep k (hF b h1 h2), h4.keep k fun q h5 h6 => hF q (by omega) h6⟩
theorem ORows.ext (h : ORows f sz lo hi w E b xss) (k : Ext w w') : ORows f sz lo hi w' E b xss := by
  obtain ⟨T, vs, h1, h2, h3, h4⟩ := h
  exact ⟨T, vs, h1, h2, h3.ext k, h4.ext k⟩
theorem ORows.sto {b' : Nat} {T : TypeId} {ds : List Value} (h : ORows f sz lo hi w E b xss) (k : Sto w w' b' T ds) (hb : b' < lo ∨ hi ≤ b') : ORows f sz lo hi w' E b xss := h.keep k.keep fun q h1 h2 => by show q ≠ b'; omega
theorem ORows.mono {lo' hi' : Nat} (h : ORows f sz lo hi w E b xss) (h1 : lo' ≤ lo) (h2 : hi ≤ hi') : ORows f sz lo' hi' w E b xss := by
  obtain ⟨T, vs, h3, h4, h5, h6⟩ := h
  exact ⟨T, vs, by omega, by omega, h5, h6.mono (Nat.le_refl _) h2⟩
theorem ORows.app {a' : Option Addr} {lo' sz' n' c' : Nat} {E' : TypeId} {ds : List Value} (h : ORows f sz lo hi w E b xss) (hh : hi ≤ w.heap.size) (k : Apd w w' a') (o : Own lo' w E' sz' a' n' c' ds) (hb : hi ≤ lo') : ORows f sz lo hi w' E b xss :=
  h.keep k fun q _ h2 => ⟨by omega, fun p hp => by have := (o.block p hp).1; omega⟩
theorem ORows.kx {b' : Nat} (h : ORows f sz lo hi w E b xss) (hh : hi ≤ w.heap.size) (k : KX b' w w') (hb : b' < lo ∨ hi ≤ b') : ORows f sz lo hi w' E b xss := h.keep k fun q h1 h2 => ⟨by omega, by omega⟩
theorem ORows.made {T : TypeId} {n : Nat} (h : Blk w b T (List.replicate n (.slice none 0 0))) (h1 : lo ≤ b) (h2 : b < hi) : ORows f sz lo hi w E b (List.replicate n []) :=
  ⟨T, List.replicate n (none, 0), h1, h2, by simpa [List.zip_replicate, rowVal] using h, OwnAll.nils n⟩
theorem zip_set {β : Type} (vs : List β) (xs : List α) (i : Nat) (v : β) (x : α) : (vs.set i v).zip (xs.set i x) = (vs.zip xs).set i (v, x) := by
  apply List.ext_getElem (by simp)
  intro j h1 h2
  by_cases hj : i = j
  · subst hj; simp
  · simp [List.getElem_set_ne hj]
theorem ORows.put {T : TypeId} {vs : List (Option Addr × Nat)} {w0 w1 : World} {Ts : TypeId} {ds : List Value} {a' : Option Addr} {n' c' i j : Nat} {ys : List α} (hlo : lo ≤ b) (hOA : OwnAll f sz (b + 1) hi w0 E vs xss) (hh : hi ≤ w0.heap.size) (hi1 : i < vs.length)
    (k : Apd w0 w1 vs[i].1) (o : Own (b + 1) w1 E sz a' n' c' (ys.flatMap f)) (hn : n' = ys.length) (fr : ∀ q, a' = some q → (∃ p, vs[i].1 = some p ∧ q.block = p.block) ∨ w0.heap.size ≤ q.block)
    (hS : Sto w1 w b Ts ds) (hj : j = i) (hB : Blk w b T (((vs.zip xss).map fun p => rowVal p.1 p.2).set j (.slice a' n' c'))) : ORows f sz lo w.heap.size w E b (xss.set i ys) := by
  subst hn hj
  have h1 := (hOA.step hi1 k o fr hh).keep hS.keep fun q h1 h2 => by show q ≠ b; omega
  refine ⟨T, vs.set j (a', c'), hlo, hB.lt, ?_, h1.mono (Nat.le_refl _) (by rw [hS.size]; exact Nat.le_refl _)⟩
  rw [zip_set, List.map_set]; exact hB
/-- What a row's cell holds. -/
theorem zip_cell {vs : List (Option Addr × Nat)} {T : TypeId} (hB : Blk w b T ((vs.zip xss).map fun p => rowVal p.1 p.2)) (hl : vs.length = xss.length) {i : Nat} (hi' : i < xss.length) : w.cell? ⟨b, 0 + i * 1, none⟩ = some (.slice (vs[i]'(by omega)).1 xss[i].length (vs[i]'(by omega)).2) := by
  rw [Nat.zero_add, Nat.mul_one]
  exact hB.cell (by simp [hi', hl, rowVal])
end
theorem Ints.of_owned {lo : Nat} {w : World} {E : TypeId} {a : Option Addr} {c : Nat} {xs : List Int} (h : Own lo w E 1 a xs.length c (xs.flatMap intF)) : Ints lo w.heap.size w a c xs :=
  ⟨by have := h.cap.1; simpa using this, by simp, by rw [ints_flat, ← intF_flat]; exact h.sat⟩
theorem SAt.hi {lo hi hi' : Nat} {w : World} {a : Option Addr} {cs : List Value} (h : SAt lo hi w a cs) (ht : ∀ p, a = some p → p.block < hi') : SAt lo hi' w a cs := by
  rcases h with h | ⟨b, off, rfl, h1, h2, h3⟩
  · exact .inl h
  · exact .inr ⟨b, off, rfl, h1, ht _ rfl, h3⟩
theorem Ints.hi {lo hi hi' : Nat} {w : World} {a : Option Addr} {c : Nat} {xs : List Int} (h : Ints lo hi w a c xs) (ht : ∀ p, a = some p → p.block < hi') : Ints lo hi' w a c xs := ⟨h.1, h.2, h.3.hi ht⟩
theorem ORows.is {lo hi : Nat} {w : World} {E : TypeId} {b c : Nat} {xss : List (List Int)} (h : ORows intF 1 lo hi w E b xss) (hc : xss.length ≤ c) : Intss lo hi w (some ⟨b, 0, none⟩) c xss := by
  obtain ⟨T, vs, h1, h2, h3, h4⟩ := h
  have hl := h4.len
  refine ⟨vs, hl, ⟨by simp [hl]; omega, fun r hr => by obtain ⟨p, _, rfl⟩ := List.mem_map.1 hr; rfl, ?_⟩, fun i hi1 hi2 => ?_⟩
  · have e : (((vs.zip xss).map fun p => rowCells p.1 p.2)).flatten = (vs.zip xss).map fun p => rowVal p.1 p.2 := by
      generalize vs.zip xss = l
      induction l with
      | nil => rfl
      | cons x r ih => simp [rowCells, rowVal] at ih ⊢; exact ih
    rw [e]
    exact (SAt.of_blk (ds := []) (by rw [List.append_nil]; exact h3)).mono h1 (by omega)
  · have hi3 : i < vs.length := by omega
    exact ((Ints.of_owned (h4.own i hi3 hi1)).hi (h4.top i hi3)).mono (by omega) (Nat.le_refl _)
end Go.Proofs.YtdpdjbfjjlpfgaaGreatDoor
