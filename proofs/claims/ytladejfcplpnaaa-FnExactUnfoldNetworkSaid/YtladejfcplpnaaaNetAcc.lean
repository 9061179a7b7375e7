/- How a network that a call makes grows. -/
import Derived.Test.YtladejfcplpnaaaMark3
import Derived.Test.YtladejfcplpnaaaNets
import Derived.Test.YtladejfcplpnaaaCopy
namespace Go.Proofs.Ytladejfcplpnaaa
open Go Go.RowKit

theorem Rows_val {vs : List (Option Addr × Nat)} {xss : Ends} {i : Nat} {a' : Option Addr} {c' : Nat} {ys : List (Int × Int)} : (((vs.zip xss).map fun p => rowVal p.1 p.2).set i (.slice a' ys.length c')) = ((vs.set i (a', c')).zip (xss.set i ys)).map fun p => rowVal p.1 p.2 := rowv_set rfl
/-- A row is another one: what the slice holds at it, and what it holds. -/
theorem RowsPAt.replace {l r : Nat} {w w2 : World} {E F : TypeId} {a : Option Addr} {c : Nat} {vs : List (Option Addr × Nat)} {xss : Ends} (h : RowsPAt l r w E F a c vs xss) {i : Nat} (h1 : i < vs.length) {a' : Option Addr} {c' : Nat} {ys : List (Int × Int)}
    (K : Keep (fun b => b < r ∧ (∀ p, a = some p → b ≠ p.block) ∧ ∀ p, vs[i].1 = some p → b ≠ p.block) w w2)
    (ho : Own l w2 F 1 a xss.length c (((vs.zip xss).map fun p => rowVal p.1 p.2).set i (.slice a' ys.length c')))
    (hy : Own l w2 E 2 a' ys.length c' (pairCells ys)) (fr : ∀ q, a' = some q → (∃ p, vs[i].1 = some p ∧ q.block = p.block) ∨ r ≤ q.block) {r' : Nat} (hr : r ≤ r') (ht : ∀ q, a' = some q → q.block < r') : RowsPAt l r' w2 E F a c (vs.set i (a', c')) (xss.set i ys) := by
  have far : ∀ j (hj : j < vs.length) (q p : Addr), j ≠ i → a' = some q → vs[j].1 = some p → q.block ≠ p.block := by
    intro j hj q p hne hq hp
    rcases fr q hq with ⟨p0, hp0, e⟩ | hge
    · rw [e]; exact h.sep i j h1 hj (Ne.symm hne) p0 p hp0 hp
    · have := h.top j hj p hp; omega
  refine ⟨by simp [h.len], ?_, fun p hp => Nat.lt_of_lt_of_le (h.otop p hp) hr, fun j h3 h4 => ?_, fun j h3 p hp => ?_, fun j1 j2 h3 h4 hne p q hp hq => ?_, fun j h3 p q hp hq => ?_⟩
  · rw [List.length_set, ← Rows_val]; exact ho
  · simp only [List.length_set] at h3 h4
    by_cases hj : j = i
    · subst hj; simp only [List.getElem_set_self]; exact hy
    · simp only [List.getElem_set_ne (Ne.symm hj)]
      exact (h.row j h3 h4).keep K fun q hq => ⟨h.top j h3 q hq, fun p hp => Ne.symm (h.osep j h3 p q hp hq), fun p hp => h.sep j i h3 h1 hj q p hq hp⟩
  · simp only [List.length_set] at h3
    by_cases hj : j = i
    · subst hj; simp only [List.getElem_set_self] at hp; exact ht p hp
    · simp only [List.getElem_set_ne (Ne.symm hj)] at hp; exact Nat.lt_of_lt_of_le (h.top j h3 p hp) hr
  · simp only [List.length_set] at h3 h4
    by_cases hj1 : j1 = i
    · subst hj1
      simp only [List.getElem_set_self] at hp
      simp only [List.getElem_set_ne hne] at hq
      exact far j2 (by simpa using h4) p q (Ne.symm hne) hp hq
    · simp only [List.getElem_set_ne (Ne.symm hj1)] at hp
      by_cases hj2 : j2 = i
      · subst hj2
        simp only [List.getElem_set_self] at hq
        exact (far j1 (by simpa using h3) q p hj1 hq hp).symm
      · simp only [List.getElem_set_ne (Ne.symm hj2)] at hq
        exact h.sep j1 j2 h3 h4 hne p q hp hq
  · simp only [List.length_set] at h3
    by_cases hj : j = i
    · subst hj
      simp only [List.getElem_set_self] at hq
      rcases fr q hq with ⟨p0, hp0, e⟩ | hge
      · rw [e]; exact h.osep j h1 p p0 hp hp0
      · have := h.otop p hp; omega
    · simp only [List.getElem_set_ne (Ne.symm hj)] at hq; exact h.osep j h3 p q hp hq
section
variable {l r : Nat} {w w' w2 : World} {E F I : TypeId} {vs : List (Option Addr × Nat)} {h : NA} {A : Net}
theorem NAcc.replace (x : NAcc l r w E F I vs h A) {i : Nat} (h1 : i < vs.length) {a' : Option Addr} {c' : Nat} {ys : List (Int × Int)}
    (K : Keep (fun b => b < r ∧ (∀ p, h.a1 = some p → b ≠ p.block) ∧ ∀ p, vs[i].1 = some p → b ≠ p.block) w w2)
    (ho : Own l w2 F 1 h.a1 A.ends.length h.c1 (((vs.zip A.ends).map fun p => rowVal p.1 p.2).set i (.slice a' ys.length c')))
    (hy : Own l w2 E 2 a' ys.length c' (pairCells ys)) (fr : ∀ q, a' = some q → (∃ p, vs[i].1 = some p ∧ q.block = p.block) ∨ r ≤ q.block) {r' : Nat} (hr : r ≤ r') (ht : ∀ q, a' = some q → q.block < r') : NAcc l r' w2 E F I (vs.set i (a', c')) h ⟨A.ends.set i ys, A.ids, A.inputs⟩ := by
  refine ⟨x.rows.replace h1 K ho hy fr hr ht, ?_, ?_, x.s23, x.s12, x.s13, fun j h3 p q hp hq => ?_, fun j h3 p q hp hq => ?_⟩
  · exact ⟨x.ids.1.keep K fun q hq => ⟨(x.ids.2 q hq).1, fun p hp => Ne.symm (x.s12 p q hp hq), fun p hp => Ne.symm (x.r2 i h1 p q hp hq)⟩, fun q hq => ⟨Nat.lt_of_lt_of_le (x.ids.2 q hq).1 hr, (x.ids.2 q hq).2⟩⟩
  · exact ⟨x.inp.1.keep K fun q hq => ⟨(x.inp.2 q hq).1, fun p hp => Ne.symm (x.s13 p q hp hq), fun p hp => Ne.symm (x.r3 i h1 p q hp hq)⟩, fun q hq => ⟨Nat.lt_of_lt_of_le (x.inp.2 q hq).1 hr, (x.inp.2 q hq).2⟩⟩
  · simp only [List.length_set] at h3
    by_cases hj : j = i
    · subst hj
      simp only [List.getElem_set_self] at hp
      rcases fr p hp with ⟨p0, hp0, e⟩ | hge
      · rw [e]; exact x.r2 j h1 p0 q hp0 hq
      · have := (x.ids.2 q hq).1; omega
    · simp only [List.getElem_set_ne (Ne.symm hj)] at hp; exact x.r2 j h3 p q hp hq
  · simp only [List.length_set] at h3
    by_cases hj : j = i
    · subst hj
      simp only [List.getElem_set_self] at hp
      rcases fr p hp with ⟨p0, hp0, e⟩ | hge
      · rw [e]; exact x.r3 j h1 p0 q hp0 hq
      · have := (x.inp.2 q hq).1; omega
    · simp only [List.getElem_set_ne (Ne.symm hj)] at hp; exact x.r3 j h3 p q hp hq
/-- One row more: the slice of rows was appended to. -/
theorem NAcc.snocRow (x : NAcc l r w E F I vs h A) {a' a2 : Option Addr} {c' c2 n' : Nat} {ys : List (Int × Int)} (hy : Own l w E 2 a2 ys.length c2 (pairCells ys)) (hn : ∀ q, a2 = some q → r ≤ q.block) (k : Apd w w' h.a1) (o : Own l w' F 1 a' n' c' ((vs.zip A.ends).map (fun p => rowVal p.1 p.2) ++ [.slice a2 ys.length c2])) (hn' : n' = A.ends.length + 1)
    (fr : ∀ q, a' = some q → (∃ p, h.a1 = some p ∧ q.block = p.block) ∨ w.heap.size ≤ q.block) (hr : r ≤ w.heap.size) : NAcc l w'.heap.size w' E F I (vs ++ [(a2, c2)]) ⟨a', c', h.a2, h.c2, h.a3, h.c3⟩ ⟨A.ends ++ [ys], A.ids, A.inputs⟩ := by
  subst hn'
  have hks := k.size
  refine ⟨x.rows.snoc hy hn k o fr hr, ?_, ?_, x.s23, fun p q hp hq => ?_, fun p q hp hq => ?_, fun i h1 p q hp hq => ?_, fun i h1 p q hp hq => ?_⟩
  · exact ⟨x.ids.1.keep k fun q hq => ⟨by have := (x.ids.2 q hq).1; omega, fun p hp => Ne.symm (x.s12 p q hp hq)⟩, fun q hq => ⟨by have := (x.ids.2 q hq).1; omega, (x.ids.2 q hq).2⟩⟩
  · exact ⟨x.inp.1.keep k fun q hq => ⟨by have := (x.inp.2 q hq).1; omega, fun p hp => Ne.symm (x.s13 p q hp hq)⟩, fun q hq => ⟨by have := (x.inp.2 q hq).1; omega, (x.inp.2 q hq).2⟩⟩
  · rcases fr p hp with ⟨z, hz, e⟩ | hge
    · rw [e]; exact x.s12 z q hz hq
    · have := (x.ids.2 q hq).1; omega
  · rcases fr p hp with ⟨z, hz, e⟩ | hge
    · rw [e]; exact x.s13 z q hz hq
    · have := (x.inp.2 q hq).1; omega
  · by_cases hi : i < vs.length
    · rw [List.getElem_append_left hi] at hp; exact x.r2 i hi p q hp hq
    · have e : i = vs.length := by simp at h1; omega
      subst e; simp at hp
      have := hn p hp; have := (x.ids.2 q hq).1; omega
  · by_cases hi : i < vs.length
    · rw [List.getElem_append_left hi] at hp; exact x.r3 i hi p q hp hq
    · have e : i = vs.length := by simp at h1; omega
      subst e; simp at hp
      have := hn p hp; have := (x.inp.2 q hq).1; omega
/-- Inputs more. -/
theorem NAcc.appInp (x : NAcc l r w E F I vs h A) {a' : Option Addr} {c' n' : Nat} {ys : List Int} (k : Apd w w' h.a3) (o : Own l w' I 1 a' n' c' ((A.inputs ++ ys).map VI)) (hn' : n' = (A.inputs ++ ys).length)
    (fr : ∀ q, a' = some q → (∃ p, h.a3 = some p ∧ q.block = p.block) ∨ w.heap.size ≤ q.block) (hr : r ≤ w.heap.size) : NAcc l w'.heap.size w' E F I vs ⟨h.a1, h.c1, h.a2, h.c2, a', c'⟩ ⟨A.ends, A.ids, A.inputs ++ ys⟩ := by
  subst hn'
  have hks := k.size
  have hlr : r ≤ w'.heap.size := by omega
  refine ⟨?_, ?_, ⟨o, fun q hq => ⟨(o.block q hq).2, .inr (Nat.zero_le _)⟩⟩, fun p q hp hq => ?_, x.s12, fun p q hp hq => ?_, x.r2, fun i h1 p q hp hq => ?_⟩
  · exact (x.rowsK k (fun q hq => ⟨(x.rows.out.block q hq).2, fun p hp => x.s13 q p hq hp⟩) (fun i h1 q hq => ⟨((x.rows.row i h1 (by rw [← x.rows.len]; exact h1)).block q hq).2, fun p hp => x.r3 i h1 q p hq hp⟩)).up2 hlr
  · exact ⟨x.ids.1.keep k fun q hq => ⟨by have := (x.ids.2 q hq).1; omega, fun p hp => x.s23 q p hq hp⟩, fun q hq => ⟨by have := (x.ids.2 q hq).1; omega, (x.ids.2 q hq).2⟩⟩
  · rcases fr q hq with ⟨z, hz, e⟩ | hge
    · rw [e]; exact x.s23 p z hp hz
    · have := (x.ids.2 p hp).1; omega
  · rcases fr q hq with ⟨z, hz, e⟩ | hge
    · rw [e]; exact x.s13 p z hp hz
    · have := x.rows.otop p hp; omega
  · rcases fr q hq with ⟨z, hz, e⟩ | hge
    · rw [e]; exact x.r3 i h1 p z hp hz
    · have := x.rows.top i h1 p hp; omega
theorem NAcc.snocInp (x : NAcc l r w E F I vs h A) {a' : Option Addr} {c' n' : Nat} {y : Int} (k : Apd w w' h.a3) (o : Own l w' I 1 a' n' c' (A.inputs.map VI ++ [VI y])) (hn' : n' = A.inputs.length + 1)
    (fr : ∀ q, a' = some q → (∃ p, h.a3 = some p ∧ q.block = p.block) ∨ w.heap.size ≤ q.block) (hr : r ≤ w.heap.size) : NAcc l w'.heap.size w' E F I vs ⟨h.a1, h.c1, h.a2, h.c2, a', c'⟩ ⟨A.ends, A.ids, A.inputs ++ [y]⟩ := x.appInp k (by rw [List.map_append]; exact o) (by rw [hn', List.length_append]; rfl) fr hr
/-- Identifiers more. -/
theorem NAcc.appIds (x : NAcc l r w E F I vs h A) {a' : Option Addr} {c' n' : Nat} {ys : List Int} (k : Apd w w' h.a2) (o : Own l w' I 1 a' n' c' ((A.ids ++ ys).map VI)) (hn' : n' = (A.ids ++ ys).length)
    (fr : ∀ q, a' = some q → (∃ p, h.a2 = some p ∧ q.block = p.block) ∨ w.heap.size ≤ q.block) (hr : r ≤ w.heap.size) : NAcc l w'.heap.size w' E F I vs ⟨h.a1, h.c1, a', c', h.a3, h.c3⟩ ⟨A.ends, A.ids ++ ys, A.inputs⟩ := by
  subst hn'
  have hks := k.size
  have hlr : r ≤ w'.heap.size := by omega
  refine ⟨?_, ⟨o, fun q hq => ⟨(o.block q hq).2, .inr (Nat.zero_le _)⟩⟩, ?_, fun p q hp hq => ?_, fun p q hp hq => ?_, x.s13, fun i h1 p q hp hq => ?_, x.r3⟩
  · exact (x.rowsK k (fun q hq => ⟨(x.rows.out.block q hq).2, fun p hp => x.s12 q p hq hp⟩) (fun i h1 q hq => ⟨((x.rows.row i h1 (by rw [← x.rows.len]; exact h1)).block q hq).2, fun p hp => x.r2 i h1 q p hq hp⟩)).up2 hlr
  · exact ⟨x.inp.1.keep k fun q hq => ⟨by have := (x.inp.2 q hq).1; omega, fun p hp => Ne.symm (x.s23 p q hp hq)⟩, fun q hq => ⟨by have := (x.inp.2 q hq).1; omega, (x.inp.2 q hq).2⟩⟩
  · rcases fr p hp with ⟨z, hz, e⟩ | hge
    · rw [e]; exact x.s23 z q hz hq
    · have := (x.inp.2 q hq).1; omega
  · rcases fr q hq with ⟨z, hz, e⟩ | hge
    · rw [e]; exact x.s12 p z hp hz
    · have := x.rows.otop p hp; omega
  · rcases fr q hq with ⟨z, hz, e⟩ | hge
    · rw [e]; exact x.r2 i h1 p z hp hz
    · have := x.rows.top i h1 p hp; omega
/-- From three ranges. -/
theorem NAcc.mk3 {m q : Nat} {a1 a2 a3 : Option Addr} {c1 c2 c3 : Nat} (hR : RowsPAt q r w E F a1 c1 vs A.ends) (hI : OwnH l m 0 0 w I 1 a2 A.ids.length c2 (A.ids.map VI)) (hJ : OwnH m q 0 0 w I 1 a3 A.inputs.length c3 (A.inputs.map VI)) (h1 : l ≤ m) (h2 : m ≤ q) (h3 : q ≤ r) : NAcc l r w E F I vs ⟨a1, c1, a2, c2, a3, c3⟩ A := by
  have o : ∀ p, a1 = some p → q ≤ p.block := fun p hp => (hR.out.block p hp).1
  have rw_ : ∀ i (_h1 : i < vs.length) p, vs[i].1 = some p → q ≤ p.block := fun i h4 p hp => ((hR.row i h4 (by rw [← hR.len]; exact h4)).block p hp).1
  have i2 : ∀ p, a2 = some p → p.block < m := fun p hp => (hI.2 p hp).1
  have i3 : ∀ p, a3 = some p → m ≤ p.block ∧ p.block < q := fun p hp => ⟨(hJ.1.block p hp).1, (hJ.2 p hp).1⟩
  refine ⟨hR.low (by omega), hI.up (Nat.le_refl _) (by omega), hJ.up h1 (by omega), fun p q hp hq => ?_, fun p q hp hq => ?_, fun p q hp hq => ?_, fun i h4 p q hp hq => ?_, fun i h4 p q hp hq => ?_⟩
  · have := i2 p hp; have := i3 q hq; omega
  · have := o p hp; have := i2 q hq; omega
  · have := o p hp; have := i3 q hq; omega
  · have := rw_ i h4 p hp; have := i2 q hq; omega
  · have := rw_ i h4 p hp; have := i3 q hq; omega
theorem NAcc.to (x : NAcc l r w E F I vs h A) {B : Net} (e : A = B) : NAcc l r w E F I vs h B := e ▸ x
end
/-- No part of it lies in block b. -/
def NOff (b : Nat) (vs : List (Option Addr × Nat)) (h : NA) : Prop := (∀ q, h.a1 = some q → q.block ≠ b) ∧ (∀ q, h.a2 = some q → q.block ≠ b) ∧ (∀ q, h.a3 = some q → q.block ≠ b) ∧ ∀ i (_h : i < vs.length) q, vs[i].1 = some q → q.block ≠ b
/-- A network that a call makes, beside the cell that holds it. -/
def NAccB (b l r : Nat) (w : World) (E F I : TypeId) (vs : List (Option Addr × Nat)) (h : NA) (A : Net) : Prop := NAcc l r w E F I vs h A ∧ NOff b vs h
section
variable {b l r : Nat} {w w' w2 : World} {E F I : TypeId} {vs : List (Option Addr × Nat)} {h : NA} {A : Net}
theorem NAcc.at (x : NAcc l r w E F I vs h A) (hb : b < l ∨ r ≤ b) : NAccB b l r w E F I vs h A :=
  ⟨x, fun q hq => by have := (x.rows.out.block q hq).1; have := x.rows.otop q hq; omega, fun q hq => by have := (x.ids.1.block q hq).1; have := (x.ids.2 q hq).1; omega, fun q hq => by have := (x.inp.1.block q hq).1; have := (x.inp.2 q hq).1; omega, fun i hi q hq => by have := ((x.rows.row i hi (by rw [← x.rows.len]; exact hi)).block q hq).1; have := x.rows.top i hi q hq; omega⟩
theorem NAccB.ext (x : NAccB b l r w E F I vs h A) (k : Ext w w') : NAccB b l r w' E F I vs h A := ⟨x.1.ext k, x.2⟩
theorem NAccB.up {r' : Nat} (x : NAccB b l r w E F I vs h A) (hr : r ≤ r') : NAccB b l r' w E F I vs h A := ⟨x.1.up hr, x.2⟩
theorem NAccB.rg {lo hi p q : Nat} (x : NAccB b l r w E F I vs h A) (k : Rg lo hi p q w w') (hb : (r ≤ lo ∨ hi ≤ l ∨ (p ≤ l ∧ r ≤ q)) ∧ r ≤ w.heap.size) : NAccB b l r w' E F I vs h A := ⟨x.1.rg k hb, x.2⟩
theorem NAccB.lo {y : Nat} (x : NAccB b l r w E F I vs h A) (k : Lo y w w') (hb : r ≤ y) : NAccB b l r w' E F I vs h A := ⟨x.1.keep k.2 fun i _ h2 => Nat.lt_of_lt_of_le h2 hb, x.2⟩
theorem NAccB.off (x : NAccB b l r w E F I vs h A) {G : Nat → Prop} (k : Keep G w w') (hG : ∀ y, l ≤ y → y < r → y ≠ b → G y) : NAccB b l r w' E F I vs h A := by
  obtain ⟨x, o1, o2, o3, o4⟩ := x
  refine ⟨⟨x.rowsK k (fun q hq => hG _ (x.rows.out.block q hq).1 (x.rows.otop q hq) (o1 q hq)) (fun i h1 q hq => hG _ ((x.rows.row i h1 (by rw [← x.rows.len]; exact h1)).block q hq).1 (x.rows.top i h1 q hq) (o4 i h1 q hq)), ⟨x.ids.1.keep k fun q hq => hG _ (x.ids.1.block q hq).1 (x.ids.2 q hq).1 (o2 q hq), x.ids.2⟩, ⟨x.inp.1.keep k fun q hq => hG _ (x.inp.1.block q hq).1 (x.inp.2 q hq).1 (o3 q hq), x.inp.2⟩, x.s23, x.s12, x.s13, x.r2, x.r3⟩, o1, o2, o3, o4⟩
theorem NAccB.sto {g : Nat} {T : TypeId} {ds : List Value} (x : NAccB b l r w E F I vs h A) (k : Sto w w' g T ds) (hb : g = b ∨ g < l ∨ r ≤ g) : NAccB b l r w' E F I vs h A := x.off k.keep fun y h1 h2 h3 => by show y ≠ g; omega
theorem NAccB.kx {g : Nat} (x : NAccB b l r w E F I vs h A) (k : KX g w w') (hb : (g = b ∨ g < l ∨ r ≤ g) ∧ r ≤ w.heap.size) : NAccB b l r w' E F I vs h A := x.off k fun y h1 h2 h3 => ⟨by omega, by omega⟩
theorem NAccB.to (x : NAccB b l r w E F I vs h A) {B : Net} (e : A = B) : NAccB b l r w E F I vs h B := e ▸ x
theorem NAccB.is (x : NAccB b l r w E F I vs h A) : IsNet l r w h A := x.1.is
theorem NAccB.own (x : NAccB b l r w E F I vs h A) : OwnNet l r w E I h A := ⟨_, _, x.1⟩
theorem NAccB.snocRow (x : NAccB b l r w E F I vs h A) {a' a2 : Option Addr} {c' c2 n' : Nat} {ys : List (Int × Int)} (hy : Own l w E 2 a2 ys.length c2 (pairCells ys)) (hn : ∀ q, a2 = some q → r ≤ q.block ∧ q.block ≠ b) (k : Apd w w' h.a1) (o : Own l w' F 1 a' n' c' ((vs.zip A.ends).map (fun p => rowVal p.1 p.2) ++ [.slice a2 ys.length c2])) (hn' : n' = A.ends.length + 1)
    (fr : ∀ q, a' = some q → (∃ p, h.a1 = some p ∧ q.block = p.block) ∨ w.heap.size ≤ q.block) (hr : r ≤ w.heap.size) (hb : b < w.heap.size) : NAccB b l w'.heap.size w' E F I (vs ++ [(a2, c2)]) ⟨a', c', h.a2, h.c2, h.a3, h.c3⟩ ⟨A.ends ++ [ys], A.ids, A.inputs⟩ := by
  refine ⟨x.1.snocRow hy (fun q hq => (hn q hq).1) k o hn' fr hr, fun q hq => ?_, x.2.2.1, x.2.2.2.1, fun i hi q hq => ?_⟩
  · rcases fr q hq with ⟨p, hp, e⟩ | hge
    · rw [e]; exact x.2.1 p hp
    · omega
  · by_cases h1 : i < vs.length
    · rw [List.getElem_append_left h1] at hq; exact x.2.2.2.2 i h1 q hq
    · have e : i = vs.length := by simp at hi; omega
      subst e; simp at hq
      exact (hn q hq).2
theorem NAccB.appInp (x : NAccB b l r w E F I vs h A) {a' : Option Addr} {c' n' : Nat} {ys : List Int} (k : Apd w w' h.a3) (o : Own l w' I 1 a' n' c' ((A.inputs ++ ys).map VI)) (hn' : n' = (A.inputs ++ ys).length)
    (fr : ∀ q, a' = some q → (∃ p, h.a3 = some p ∧ q.block = p.block) ∨ w.heap.size ≤ q.block) (hr : r ≤ w.heap.size) (hb : b < w.heap.size) : NAccB b l w'.heap.size w' E F I vs ⟨h.a1, h.c1, h.a2, h.c2, a', c'⟩ ⟨A.ends, A.ids, A.inputs ++ ys⟩ := by
  refine ⟨x.1.appInp k o hn' fr hr, x.2.1, x.2.2.1, fun q hq => ?_, x.2.2.2.2⟩
  rcases fr q hq with ⟨p, hp, e⟩ | hge
  · rw [e]; exact x.2.2.2.1 p hp
  · omega
theorem NAccB.snocInp (x : NAccB b l r w E F I vs h A) {a' : Option Addr} {c' n' : Nat} {y : Int} (k : Apd w w' h.a3) (o : Own l w' I 1 a' n' c' (A.inputs.map VI ++ [VI y])) (hn' : n' = A.inputs.length + 1)
    (fr : ∀ q, a' = some q → (∃ p, h.a3 = some p ∧ q.block = p.block) ∨ w.heap.size ≤ q.block) (hr : r ≤ w.heap.size) (hb : b < w.heap.size) : NAccB b l w'.heap.size w' E F I vs ⟨h.a1, h.c1, h.a2, h.c2, a', c'⟩ ⟨A.ends, A.ids, A.inputs ++ [y]⟩ := x.appInp k (by rw [List.map_append]; exact o) (by rw [hn', List.length_append]; rfl) fr hr hb
theorem NAccB.appIds (x : NAccB b l r w E F I vs h A) {a' : Option Addr} {c' n' : Nat} {ys : List Int} (k : Apd w w' h.a2) (o : Own l w' I 1 a' n' c' ((A.ids ++ ys).map VI)) (hn' : n' = (A.ids ++ ys).length)
    (fr : ∀ q, a' = some q → (∃ p, h.a2 = some p ∧ q.block = p.block) ∨ w.heap.size ≤ q.block) (hr : r ≤ w.heap.size) (hb : b < w.heap.size) : NAccB b l w'.heap.size w' E F I vs ⟨h.a1, h.c1, a', c', h.a3, h.c3⟩ ⟨A.ends, A.ids ++ ys, A.inputs⟩ := by
  refine ⟨x.1.appIds k o hn' fr hr, x.2.1, fun q hq => ?_, x.2.2.2.1, x.2.2.2.2⟩
  rcases fr q hq with ⟨p, hp, e⟩ | hge
  · rw [e]; exact x.2.2.1 p hp
  · omega
theorem NAccB.replace (x : NAccB b l r w E F I vs h A) {i : Nat} (h1 : i < vs.length) {a' : Option Addr} {c' : Nat} {ys : List (Int × Int)}
    (K : Keep (fun b => b < r ∧ (∀ p, h.a1 = some p → b ≠ p.block) ∧ ∀ p, vs[i].1 = some p → b ≠ p.block) w w2)
    (ho : Own l w2 F 1 h.a1 A.ends.length h.c1 (((vs.zip A.ends).map fun p => rowVal p.1 p.2).set i (.slice a' ys.length c')))
    (hy : Own l w2 E 2 a' ys.length c' (pairCells ys)) (fr : ∀ q, a' = some q → (∃ p, vs[i].1 = some p ∧ q.block = p.block) ∨ (r ≤ q.block ∧ q.block ≠ b)) {r' : Nat} (hr : r ≤ r') (ht : ∀ q, a' = some q → q.block < r') : NAccB b l r' w2 E F I (vs.set i (a', c')) h ⟨A.ends.set i ys, A.ids, A.inputs⟩ := by
  refine ⟨x.1.replace h1 K ho hy (fun q hq => (fr q hq).imp id And.left) hr ht, x.2.1, x.2.2.1, x.2.2.2.1, fun j hj q hq => ?_⟩
  simp only [List.length_set] at hj
  by_cases e : j = i
  · subst e
    simp only [List.getElem_set_self] at hq
    rcases fr q hq with ⟨p, hp, e⟩ | hge
    · rw [e]; exact x.2.2.2.2 j h1 p hp
    · exact hge.2
  · simp only [List.getElem_set_ne (Ne.symm e)] at hq; exact x.2.2.2.2 j hj q hq
end

end Go.Proofs.Ytladejfcplpnaaa
