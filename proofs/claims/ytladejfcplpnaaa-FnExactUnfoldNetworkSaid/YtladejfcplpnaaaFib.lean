/- Pairs of nodes with the same image: what FibreProduct returns. -/
import Derived.Test.YtladejfcplpnaaaPower
import Derived.Test.YtladejfcplpnaaaCovering
import Derived.Test.YtladejfcplpnaaaKeys
namespace Go.Proofs.Ytladejfcplpnaaa
open Go Go.RowKit

def eqv (f g : List Int) (v w : Nat) : Bool := decide (f.getD v 0 = g.getD w 0)
def ftR (f g : List Int) (v : Nat) : Nat → List (Int × Int)
  | 0 => []
  | k + 1 => ftR f g v k ++ if eqv f g v k then [((v : Int), (k : Int))] else []
/-- The pairs whose first one is below i. -/
def ftN (f g : List Int) (nB : Nat) : Nat → List (Int × Int)
  | 0 => []
  | i + 1 => ftN f g nB i ++ ftR f g i nB
/-- The pairs before (i, k). -/
def pl (f g : List Int) (nB i k : Nat) : List (Int × Int) := ftN f g nB i ++ ftR f g i k
section
variable {f g : List Int} {nB i k v w : Nat}
theorem pl_zero : pl f g nB i 0 = ftN f g nB i := by simp [pl, ftR]
theorem pl_next : pl f g nB i nB = ftN f g nB (i + 1) := rfl
theorem pl_yes (h : eqv f g i k = true) : pl f g nB i k ++ [((i : Int), (k : Int))] = pl f g nB i (k + 1) := by simp [pl, ftR, h]
theorem pl_no (h : eqv f g i k = false) : pl f g nB i (k + 1) = pl f g nB i k := by simp [pl, ftR, h]
theorem ftR_len : (ftR f g i k).length ≤ k := by
  induction k with
  | zero => simp [ftR]
  | succ k ih => simp only [ftR, List.length_append]; split <;> simp <;> omega
theorem ftN_len : (ftN f g nB i).length ≤ i * nB := by
  induction i with
  | zero => simp [ftN]
  | succ i ih =>
    have := ftR_len (f := f) (g := g) (i := i) (k := nB)
    simp only [ftN, List.length_append, Nat.add_mul, Nat.one_mul]; omega
theorem ftR_mem {p : Int × Int} (h : p ∈ ftR f g v k) : ∃ w : Nat, w < k ∧ eqv f g v w = true ∧ p = ((v : Int), (w : Int)) := by
  induction k with
  | zero => simp [ftR] at h
  | succ k ih =>
    simp only [ftR] at h
    rcases List.mem_append.1 h with h | h
    · obtain ⟨w, h1, h2⟩ := ih h; exact ⟨w, by omega, h2⟩
    · split at h
      · rename_i he; exact ⟨k, by omega, he, by simpa using h⟩
      · cases h
theorem ftN_mem {p : Int × Int} (h : p ∈ ftN f g nB i) : ∃ v w : Nat, v < i ∧ w < nB ∧ eqv f g v w = true ∧ p = ((v : Int), (w : Int)) := by
  induction i with
  | zero => simp [ftN] at h
  | succ i ih =>
    rcases List.mem_append.1 (show p ∈ ftN f g nB i ++ ftR f g i nB from h) with h | h
    · obtain ⟨v, w, h1, h2⟩ := ih h; exact ⟨v, w, by omega, h2⟩
    · obtain ⟨w, h1, h2⟩ := ftR_mem h; exact ⟨i, w, by omega, h1, h2⟩
theorem pl_new : ((i : Int), (k : Int)) ∉ pl f g nB i k := by
  intro h
  rcases List.mem_append.1 (show _ ∈ ftN f g nB i ++ ftR f g i k from h) with h | h
  · obtain ⟨v, w, h1, _, _, e⟩ := ftN_mem h
    have := (Prod.mk.inj e).1; omega
  · obtain ⟨w, h1, _, e⟩ := ftR_mem h
    have := (Prod.mk.inj e).2; omega
theorem pl_nodup (h : (ftN f g nB i).Nodup) : (pl f g nB i k).Nodup := by
  induction k with
  | zero => rw [pl_zero]; exact h
  | succ k ih =>
    cases he : eqv f g i k with
    | true =>
      rw [← pl_yes he, List.nodup_append]
      refine ⟨ih, by simp, fun a ha b hb e => ?_⟩
      simp at hb; subst hb; subst e
      exact pl_new ha
    | false => rw [pl_no he]; exact ih
theorem ftN_nodup : (ftN f g nB i).Nodup := by
  induction i with
  | zero => simp [ftN]
  | succ i ih => exact pl_nodup ih
/-- The number of a pair. -/
def num (f g : List Int) (nB v w : Nat) : Nat := (pl f g nB v w).length
theorem ftR_split (hw : w < k) (h : eqv f g v w = true) : ∃ rest, ftR f g v k = ftR f g v w ++ ((v : Int), (w : Int)) :: rest := by
  induction k with
  | zero => omega
  | succ k ih =>
    by_cases e : w = k
    · subst e; exact ⟨[], by simp [ftR, h]⟩
    · obtain ⟨r, hr⟩ := ih (by omega)
      exact ⟨r ++ if eqv f g v k then [((v : Int), (k : Int))] else [], by simp only [ftR]; rw [hr]; simp⟩
theorem ftN_split (hv : v < i) (hw : w < nB) (h : eqv f g v w = true) : ∃ rest, ftN f g nB i = pl f g nB v w ++ ((v : Int), (w : Int)) :: rest := by
  induction i with
  | zero => omega
  | succ i ih =>
    by_cases e : v = i
    · subst e
      obtain ⟨r, hr⟩ := ftR_split (f := f) (g := g) hw h
      exact ⟨r, by simp only [ftN, pl]; rw [hr]; simp⟩
    · obtain ⟨r, hr⟩ := ih (by omega)
      exact ⟨r ++ ftR f g i nB, by simp only [ftN]; rw [hr]; simp⟩
theorem num_at (hv : v < i) (hw : w < nB) (h : eqv f g v w = true) : ∃ hl : num f g nB v w < (ftN f g nB i).length, (ftN f g nB i)[num f g nB v w] = ((v : Int), (w : Int)) := by
  obtain ⟨r, hr⟩ := ftN_split hv hw h
  have hl : num f g nB v w < (ftN f g nB i).length := by rw [hr]; simp [num]
  refine ⟨hl, ?_⟩
  simp only [hr]
  rw [List.getElem_append_right (by simp [num])]
  simp [num]
theorem nodup_inj {α : Type} {l : List α} (h : l.Nodup) {a b : Nat} (ha : a < l.length) (hb : b < l.length) (e : l[a] = l[b]) : a = b := by
  have hp := List.pairwise_iff_getElem.1 h
  rcases Nat.lt_trichotomy a b with h1 | h1 | h1
  · exact absurd e (hp a b ha hb h1)
  · exact h1
  · exact absurd e.symm (hp b a hb ha h1)
theorem num_of {t : Nat} (ht : t < (ftN f g nB i).length) : ∃ v w : Nat, v < i ∧ w < nB ∧ eqv f g v w = true ∧ (ftN f g nB i)[t] = ((v : Int), (w : Int)) ∧ num f g nB v w = t := by
  obtain ⟨v, w, h1, h2, h3, e⟩ := ftN_mem (List.getElem_mem ht)
  obtain ⟨hl, e2⟩ := num_at h1 h2 h3
  exact ⟨v, w, h1, h2, h3, e, nodup_inj ftN_nodup hl ht (e2.trans e.symm)⟩
def kvP (L : List (Int × Int)) : List ((Int × Int) × Int) := (List.range L.length).map fun t : Nat => (L.getD t (0, 0), (t : Int))
theorem kvP_keys (L : List (Int × Int)) : (kvP L).map Prod.fst = L := by
  refine List.ext_getElem (by simp [kvP]) fun t h1 h2 => ?_
  simp [kvP, h2]
theorem kvP_snoc {L : List (Int × Int)} {p : Int × Int} : kvP L ++ [(p, (L.length : Int))] = kvP (L ++ [p]) := by
  refine List.ext_getElem (by simp [kvP]) fun t h1 h2 => ?_
  have ht : t < L.length + 1 := by simpa [kvP] using h2
  by_cases h : t < L.length
  · rw [List.getElem_append_left (by simpa [kvP] using h)]
    simp [kvP, List.getElem?_append_left h]
  · have e : t = L.length := by omega
    subst e
    rw [List.getElem_append_right (by simp [kvP])]
    simp [kvP]
theorem kvP_look (hv : v < i) (hw : w < nB) (h : eqv f g v w = true) : (alook (kvP (ftN f g nB i)) ((v : Int), (w : Int))).getD 0 = (num f g nB v w : Int) := by
  obtain ⟨hl, e⟩ := num_at hv hw h
  have hm : (((v : Int), (w : Int)), (num f g nB v w : Int)) ∈ kvP (ftN f g nB i) := List.mem_map.2 ⟨num f g nB v w, List.mem_range.2 hl, by rw [getD_eq hl, e]⟩
  rw [alook_mem (by rw [kvP_keys]; exact ftN_nodup) hm]; rfl
/-- The row of numbers, -1 where the images differ. -/
def ntR (f g : List Int) (nB i k : Nat) : List Int := (List.range k).map fun w => if eqv f g i w then (num f g nB i w : Int) else -1
theorem ntR_zero : ntR f g nB i 0 = [] := rfl
theorem ntR_len : (ntR f g nB i k).length = k := by simp [ntR]
theorem ntR_yes (h : eqv f g i k = true) : ntR f g nB i k ++ [((pl f g nB i k).length : Int)] = ntR f g nB i (k + 1) := by simp [ntR, List.range_succ, h, num]
theorem ntR_no (h : eqv f g i k = false) : ntR f g nB i k ++ [-1] = ntR f g nB i (k + 1) := by simp [ntR, List.range_succ, h]
theorem ntR_at (h : w < (ntR f g nB i k).length) : (ntR f g nB i k)[w] = if eqv f g i w then (num f g nB i w : Int) else -1 := by simp [ntR]
end
/-- The row of a pair. -/
def prow (A B : Net) (f g : List Int) (p : Int × Int) : List (Int × Int) := (List.range (A.ends.getD p.1.toNat []).length).map fun i : Nat => ((num f g B.ends.length ((A.ends.getD p.1.toNat []).getD i (0, 0)).1.toNat ((B.ends.getD p.2.toNat []).getD i (0, 0)).1.toNat : Int), ((A.ends.getD p.1.toNat []).getD i (0, 0)).2)
abbrev PLf (A B : Net) (f g : List Int) : List (Int × Int) := ftN f g B.ends.length A.ends.length
def fibP (A B : Net) (f g : List Int) : Net := ⟨(PLf A B f g).map (prow A B f g), [], (PLf A B f g).map fun p => A.inputs.getD p.1.toNat 0⟩
structure HF (A B D : Net) (f g : List Int) : Prop where
  a : NOk A
  b : NOk B
  d : NOk D
  pf : IsPM A D f
  pg : IsPM B D g
section
variable {A B D : Net} {f g : List Int}
theorem HF.lenf (h : HF A B D f g) : f.length = A.ends.length := by have := h.pf.len; omega
theorem HF.leng (h : HF A B D f g) : g.length = B.ends.length := by have := h.pg.len; omega
theorem HF.deg (h : HF A B D f g) {v w : Nat} (hv : v < A.ends.length) (hw : w < B.ends.length) (e : eqv f g v w = true) : A.ends[v].length = B.ends[w].length := by
  have h1 := h.lenf; have h2 := h.leng
  have hm : v < f.length := by omega
  have hn : w < g.length := by omega
  have e1 := of_decide_eq_true e
  rw [getD_eq hm, getD_eq hn] at e1
  have r1 := allR_true.1 h.pf.rng _ (List.getElem_mem hm)
  have hb : f[v].toNat < D.ends.length := by omega
  have k1 := h.pf.rowlen hv hm hb
  have k2 := h.pg.rowlen hw hn (by rw [← e1]; exact hb)
  rw [k1, k2]; simp only [e1]
theorem HF.step (h : HF A B D f g) {v w i : Nat} (hv : v < A.ends.length) (hw : w < B.ends.length) (e : eqv f g v w = true) (hi : i < A.ends[v].length) (hj : i < B.ends[w].length) :
    A.ends[v][i].1.toNat < A.ends.length ∧ B.ends[w][i].1.toNat < B.ends.length ∧ eqv f g A.ends[v][i].1.toNat B.ends[w][i].1.toNat = true ∧ A.ends[v][i].2 = B.ends[w][i].2 := by
  have h1 := h.lenf; have h2 := h.leng
  have hm : v < f.length := by omega
  have hn : w < g.length := by omega
  have e1 := of_decide_eq_true e
  rw [getD_eq hm, getD_eq hn] at e1
  obtain ⟨a2, a3, a4, a5⟩ := h.pf.mend hv hi hm
  obtain ⟨b2, b3, b4, b5⟩ := h.pg.mend hw hj hn
  simp only [e1] at a5
  rw [b5] at a5
  have := Prod.mk.inj a5
  exact ⟨by omega, by omega, by unfold eqv; rw [getD_eq a4, getD_eq b4]; exact decide_eq_true this.1.symm, this.2.symm⟩
theorem prow_len {p : Int × Int} {v : Nat} (e : p.1 = (v : Int)) (hv : v < A.ends.length) : (prow A B f g p).length = A.ends[v].length := by simp [prow, e, List.getElem?_eq_getElem hv]
theorem prow_at {v w i : Nat} (hv : v < A.ends.length) (hw : w < B.ends.length) (hi : i < A.ends[v].length) (hj : i < B.ends[w].length) (h : i < (prow A B f g ((v : Int), (w : Int))).length) : (prow A B f g ((v : Int), (w : Int)))[i] = ((num f g B.ends.length A.ends[v][i].1.toNat B.ends[w][i].1.toNat : Int), A.ends[v][i].2) := by
  simp only [prow, List.getElem_map, List.getElem_range, Int.toNat_natCast, getD_eq hv, getD_eq hw, getD_eq hi, getD_eq hj]
theorem fib_ok (h : HF A B D f g) (h1 : 1 ≤ (PLf A B f g).length) (h2 : (PLf A B f g).length ≤ 40) : NOk (fibP A B f g) := by
  have hl : (fibP A B f g).ends.length = (PLf A B f g).length := by simp [fibP]
  refine ⟨by rw [hl]; omega, .inl (by simp [fibP]), by rw [hl]; simp [fibP], ?_, fun t ht => ?_⟩
  · refine allR_true.2 fun x hx => ?_
    obtain ⟨p, hp, rfl⟩ := List.mem_map.1 hx
    obtain ⟨v, w, hv, _, _, rfl⟩ := ftN_mem hp
    have hi := h.a.inLen
    simp only [Int.toNat_natCast]
    rw [getD_eq (show v < A.inputs.length by omega)]
    exact allR_true.1 h.a.inputs _ (List.getElem_mem _)
  · obtain ⟨v, w, hv, hw, he, e1, e2⟩ := num_of (show t < (PLf A B f g).length by rw [← hl]; exact ht)
    have hr : (fibP A B f g).ends[t] = prow A B f g ((v : Int), (w : Int)) := by simp only [fibP, List.getElem_map]; rw [e1]
    have hdeg := h.deg hv hw he
    refine ⟨?_, fun i hi => ?_⟩
    · rw [hr, prow_len rfl hv]; exact (h.a.rows v hv).1
    · have hi' : i < (prow A B f g ((v : Int), (w : Int))).length := by rw [← hr]; exact hi
      have hiA : i < A.ends[v].length := by rw [← prow_len (B := B) (f := f) (g := g) (p := ((v : Int), (w : Int))) rfl hv]; exact hi'
      have hiB : i < B.ends[w].length := by omega
      obtain ⟨s1, s2, s3, s4⟩ := h.step hv hw he hiA hiB
      obtain ⟨p1, p2, p3, p4, p5⟩ := h.a.endOk hv hiA
      obtain ⟨q1, q2, q3, q4, q5⟩ := h.b.endOk hw hiB
      have ee : (fibP A B f g).ends[t][i] = ((num f g B.ends.length A.ends[v][i].1.toNat B.ends[w][i].1.toNat : Int), A.ends[v][i].2) := by
        have := prow_at (f := f) (g := g) hv hw hiA hiB hi'
        rw [← this]; simp only [hr]
      obtain ⟨n1, n2⟩ := num_at s1 s2 s3
      have hr2 : (fibP A B f g).ends[num f g B.ends.length A.ends[v][i].1.toNat B.ends[w][i].1.toNat]'(by rw [hl]; exact n1) = prow A B f g (((A.ends[v][i].1.toNat : Nat) : Int), ((B.ends[w][i].1.toNat : Nat) : Int)) := by simp only [fibP, List.getElem_map]; rw [n2]
      have hj' : A.ends[v][i].2.toNat < (prow A B f g (((A.ends[v][i].1.toNat : Nat) : Int), ((B.ends[w][i].1.toNat : Nat) : Int))).length := by rw [prow_len rfl s1]; exact p4
      have hjB : A.ends[v][i].2.toNat < B.ends[B.ends[w][i].1.toNat].length := by rw [s4]; exact q4
      have ha := prow_at (f := f) (g := g) s1 s2 p4 hjB hj'
      have q5' : B.ends[B.ends[w][i].1.toNat][A.ends[v][i].2.toNat] = ((w : Int), (i : Int)) := by simp only [s4]; exact q5
      rw [p5, q5'] at ha
      simp only [Int.toNat_natCast] at ha
      rw [e2] at ha
      unfold EndOk
      rw [ee]
      refine ⟨by simp only []; omega, by simp only [Int.toNat_natCast]; rw [hl]; exact n1, p3, by simp only [Int.toNat_natCast, hr2]; exact hj', ?_⟩
      simp only [Int.toNat_natCast, hr2]
      exact ha
end

end Go.Proofs.Ytladejfcplpnaaa
