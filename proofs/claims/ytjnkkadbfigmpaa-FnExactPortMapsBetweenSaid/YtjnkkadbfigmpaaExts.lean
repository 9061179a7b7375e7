/- The nodes that a walk reaches, in order, and the map that it extends. No condition. -/
import Derived.Test.YtjnkkadbfigmpaaLists
namespace Go.Proofs.Ytjnkkadbfigmpaa
open Go Go.RowKit

/-- The nodes that are reached from node 0, in the order in which they are found. -/
def reachL (ends : Ends) : List Int := (bfsN ends 0 ends.length).2
theorem bfsN_pre1 (ends : Ends) (v : Int) (k : Nat) : ∃ r, (bfsN ends v (k + 1)).2 = (bfsN ends v k).2 ++ r := by
  rcases Nat.lt_or_ge k (bfsN ends v k).2.length with h | h
  · rw [bfsN_succ h]; exact fold_pre _
  · rw [bfsN_stop h]; exact ⟨[], by simp⟩
theorem bfsN_pre (ends : Ends) (v : Int) (k j : Nat) : ∃ r, (bfsN ends v (k + j)).2 = (bfsN ends v k).2 ++ r := by
  induction j with
  | zero => exact ⟨[], by simp⟩
  | succ j ih =>
    obtain ⟨r, hr⟩ := ih
    obtain ⟨q, hq⟩ := bfsN_pre1 ends v (k + j)
    exact ⟨r ++ q, by rw [← Nat.add_assoc, hq, hr, List.append_assoc]⟩
theorem reachL_pre {ends : Ends} {k : Nat} (h : k ≤ ends.length) : ∃ r, reachL ends = (bfsN ends 0 k).2 ++ r := by
  obtain ⟨r, hr⟩ := bfsN_pre ends 0 k (ends.length - k)
  rw [show k + (ends.length - k) = ends.length by omega] at hr
  exact ⟨r, hr⟩
theorem reachL_done {ends : Ends} {k : Nat} (h : (bfsN ends 0 k).2.length ≤ k) (h2 : k ≤ ends.length) : (bfsN ends 0 k).2 = reachL ends := by
  have := bfsN_fix h (ends.length - k)
  rw [show k + (ends.length - k) = ends.length by omega] at this
  unfold reachL; rw [this]
theorem reachL_at {ends : Ends} {k i : Nat} (h : k ≤ ends.length) (hi : i < (bfsN ends 0 k).2.length) (h2 : i < (reachL ends).length) : (bfsN ends 0 k).2[i] = (reachL ends)[i] := by
  obtain ⟨r, hr⟩ := reachL_pre h
  exact (pre_get hr hi h2).symm
theorem reachL_le {ends : Ends} (hk : EndsOk ends) (h0 : 0 < ends.length) : (reachL ends).length ≤ ends.length := (bfsN_inv hk (v := 0) (by omega) (by omega) ends.length).walk
theorem reachL_len {ends : Ends} {k : Nat} (h : k ≤ ends.length) : (bfsN ends 0 k).2.length ≤ (reachL ends).length := by
  obtain ⟨r, hr⟩ := reachL_pre h
  rw [hr, List.length_append]; omega
/-- A place of the walk is found before its turn. -/
theorem reachL_now {ends : Ends} {i : Nat} (h : i < (reachL ends).length) (h2 : i ≤ ends.length) : i < (bfsN ends 0 i).2.length := by
  rcases Nat.lt_or_ge i (bfsN ends 0 i).2.length with h3 | h3
  · exact h3
  · rw [reachL_done h3 h2] at h3; omega
theorem reach_all {ends : Ends} (hk : EndsOk ends) (h0 : 0 < ends.length) : ((reachL ends).length : Int) = (ends.length : Int) ↔ ∀ d ∈ bfs ends 0, 0 ≤ d := by
  have hI := bfsN_inv hk (v := 0) (by omega) (by omega) ends.length
  have hc : (reachL ends).length + negs (bfs ends 0) = ends.length := hI.cnt
  have hn : negs (bfs ends 0) = 0 ↔ ∀ d ∈ bfs ends 0, 0 ≤ d := by
    unfold negs
    rw [List.countP_eq_zero]
    simp only [decide_eq_true_eq, Int.not_lt]
  rw [← hn]; omega
theorem bmem_iff {N : Nat} {v : Int} {s : List Int × List Int} (h : BInv N v s) {y : Int} (h0 : 0 ≤ y) (h1 : y.toNat < N) : y ∈ s.2 ↔ 0 ≤ s.1.getD y.toNat 0 := by
  constructor
  · intro hy; exact (h.mem y hy).2.2
  · intro hy
    have := h.all y.toNat h1 hy
    rwa [Int.toNat_of_nonneg h0] at this

/-! ### The map -/
def extX (z : Int) (m : List Int) (y : Int) : List Int := if m.getD y.toNat 0 < 0 then m.set y.toNat z else m
def extR (row brow : List (Int × Int)) (m : List Int) : Nat → List Int
  | 0 => m
  | k + 1 => match row[k]? with
    | some e => extX (brow.getD k (0, 0)).1 (extR row brow m k) e.1
    | none => extR row brow m k
def extN (A B : Ends) (w : Int) : Nat → List Int
  | 0 => (List.replicate A.length (-1)).set 0 w
  | i + 1 => match (reachL A)[i]? with
    | some x => extR (A.getD x.toNat []) (B.getD ((extN A B w i).getD x.toNat 0).toNat []) (extN A B w i) (A.getD x.toNat []).length
    | none => extN A B w i
structure XInv (N M : Nat) (s : List Int × List Int) (m : List Int) : Prop where
  len : m.length = N
  coh : ∀ x, x < N → (0 ≤ m.getD x 0 ↔ 0 ≤ s.1.getD x 0)
  rng : ∀ x ∈ m, -1 ≤ x ∧ x < (M : Int)
theorem XInv.at {N M : Nat} {s : List Int × List Int} {m : List Int} (h : XInv N M s m) {x : Nat} (hx : x < m.length) : -1 ≤ m[x] ∧ m[x] < (M : Int) := h.rng _ (List.getElem_mem hx)
theorem XInv.step {N M : Nat} {v d y z : Int} {s : List Int × List Int} {m : List Int} (b : BInv N v s) (h : XInv N M s m) (h1 : y.toNat < N) (hd : 0 ≤ d) (hz : 0 ≤ z ∧ z < (M : Int)) : XInv N M (bfsX d s y) (extX z m y) := by
  have hc := h.coh y.toNat h1
  unfold bfsX extX
  by_cases hn : s.1.getD y.toNat 0 < 0
  · have hn2 : m.getD y.toNat 0 < 0 := by omega
    rw [if_pos hn, if_pos hn2]
    refine ⟨by rw [List.length_set]; exact h.len, fun x hx => ?_, fun x hx => ?_⟩
    · by_cases e : y.toNat = x
      · subst e
        rw [getD_set_self (by rw [h.len]; exact hx), getD_set_self (by rw [b.len]; exact hx)]
        omega
      · rw [getD_set_ne e, getD_set_ne e]; exact h.coh x hx
    · rcases List.mem_or_eq_of_mem_set hx with h2 | h2
      · exact h.rng x h2
      · omega
  · have hn2 : ¬ m.getD y.toNat 0 < 0 := by omega
    rw [if_neg hn, if_neg hn2]; exact h
theorem extR_new {row brow : List (Int × Int)} {m : List Int} {k : Nat} (hk : k < row.length) (hb : k < brow.length) {h2 : row[k].1.toNat < (extR row brow m k).length} (hn : (extR row brow m k)[row[k].1.toNat] < 0) :
    (extR row brow m k).set row[k].1.toNat brow[k].1 = extR row brow m (k + 1) := by
  rw [extR, List.getElem?_eq_getElem hk]
  simp only [extX]
  rw [getD_eq h2, if_pos hn, getD_eq hb]
theorem extR_old {row brow : List (Int × Int)} {m : List Int} {k : Nat} (hk : k < row.length) {h2 : row[k].1.toNat < (extR row brow m k).length} (hn : ¬ (extR row brow m k)[row[k].1.toNat] < 0) : extR row brow m k = extR row brow m (k + 1) := by
  rw [extR, List.getElem?_eq_getElem hk]
  simp only [extX]
  rw [getD_eq h2, if_neg hn]
theorem extR_keep {row brow : List (Int × Int)} {m : List Int} {x : Nat} (hx : 0 ≤ m.getD x 0) : ∀ k, (extR row brow m k).getD x 0 = m.getD x 0 := by
  intro k
  induction k with
  | zero => rfl
  | succ k ih =>
    unfold extR
    split
    · rename_i e he
      unfold extX
      split
      · rename_i hn
        rw [getD_set_ne (fun e2 => by rw [e2, ih] at hn; omega), ih]
      · exact ih
    · exact ih
theorem extR_inv {A : Ends} {M i k : Nat} {x : Int} {brow : List (Int × Int)} {m : List Int} (hk : EndsOk A) (h0 : 0 < A.length) (hi : i < (bfsN A 0 i).2.length) (hx : (bfsN A 0 i).2[i] = x) (hxl : x.toNat < A.length) (h : XInv A.length M (bfsN A 0 i) m)
    (hbl : brow.length = A[x.toNat].length) (hb : ∀ e ∈ brow, 0 ≤ e.1 ∧ e.1.toNat < M) (hkl : k ≤ A[x.toNat].length) : XInv A.length M (bfsK A 0 i x k) (extR A[x.toNat] brow m k) := by
  induction k with
  | zero => rw [bfsK_zero]; exact h
  | succ k ih =>
    have hkl' : k < A[x.toNat].length := by omega
    have ih := ih (by omega)
    have hnl : k < (near A x).length := by rw [near_get hxl]; simpa using hkl'
    have hy : (near A x)[k] = A[x.toNat][k].1 := by simp [near_get hxl]
    have hB := bfsK_inv (k := k) hk (v := 0) (by omega) (by omega) hi hx
    have hn := near_ok hk x _ (List.getElem_mem hnl)
    rw [hy] at hn
    have hm := (bfsN_inv hk (v := 0) (by omega) (by omega) i).mem _ (List.getElem_mem hi)
    rw [hx] at hm
    have hz := hb _ (List.getElem_mem (show k < brow.length by omega))
    have := ih.step hB (y := A[x.toNat][k].1) (d := (bfsN A 0 i).1.getD x.toNat 0) (z := brow[k].1) hn.2 hm.2.2 ⟨hz.1, by omega⟩
    rw [bfsK_succ hnl, hy]
    rw [extR, List.getElem?_eq_getElem hkl']
    simp only []
    rw [getD_eq (show k < brow.length by omega)]
    exact this
/-- At step i the node has as many ports as its image. -/
def ExtAt (A B : Ends) (w : Int) (i : Nat) : Prop := ∀ h : i < (reachL A).length, (A.getD ((reachL A)[i]).toNat []).length = (B.getD ((extN A B w i).getD ((reachL A)[i]).toNat 0).toNat []).length
theorem extN_zero_inv {A : Ends} {M : Nat} {w : Int} (h0 : 0 < A.length) (hw : 0 ≤ w ∧ w.toNat < M) {B : Ends} : XInv A.length M (bfsN A 0 0) (extN A B w 0) := by
  refine ⟨by simp [extN], fun x hx => ?_, fun x hx => ?_⟩
  · by_cases e : 0 = x
    · subst e
      simp only [extN, bfsN]
      rw [getD_set_self (by simpa using h0)]
      show 0 ≤ w ↔ 0 ≤ ((List.replicate A.length (-1)).set (0 : Int).toNat 0).getD 0 0
      rw [show (0 : Int).toNat = 0 from rfl, getD_set_self (by simpa using h0)]
      omega
    · simp only [extN, bfsN]
      rw [getD_set_ne e]
      rw [show (0 : Int).toNat = 0 from rfl, getD_set_ne e]
  · simp only [extN] at hx
    rcases List.mem_or_eq_of_mem_set hx with h2 | h2
    · rw [List.mem_replicate] at h2; omega
    · omega
theorem extN_succ {A B : Ends} {w x : Int} {i : Nat} (h : i < (reachL A).length) (hx : (reachL A)[i] = x) (hxl : x.toNat < A.length) {hm : x.toNat < (extN A B w i).length} {hb : ((extN A B w i)[x.toNat]).toNat < B.length} :
    extN A B w (i + 1) = extR A[x.toNat] B[((extN A B w i)[x.toNat]).toNat] (extN A B w i) A[x.toNat].length := by
  rw [extN, List.getElem?_eq_getElem h, hx]
  simp only []
  rw [getD_eq hxl, getD_eq hm, getD_eq hb]
theorem extN_inv {A B : Ends} {w : Int} (hk : EndsOk A) (hkB : EndsOk B) (h0 : 0 < A.length) (hw : 0 ≤ w ∧ w.toNat < B.length) : ∀ i : Nat, i ≤ (reachL A).length → (∀ j, j < i → ExtAt A B w j) → XInv A.length B.length (bfsN A 0 i) (extN A B w i) := by
  intro i
  induction i with
  | zero => intro _ _; exact extN_zero_inv h0 hw
  | succ i ih =>
    intro hi hok
    have ih := ih (by omega) fun j hj => hok j (by omega)
    have hle := reachL_le hk h0
    have hil : i < (reachL A).length := by omega
    have hin := reachL_now hil (by omega)
    have hx : (bfsN A 0 i).2[i] = (reachL A)[i] := reachL_at (by omega) hin hil
    generalize hxe : (reachL A)[i] = x at hx
    have hm := (bfsN_inv hk (v := 0) (by omega) (by omega) i).mem _ (List.getElem_mem hin)
    rw [hx] at hm
    have hxm : x.toNat < (extN A B w i).length := by rw [ih.len]; exact hm.2.1
    have hc := (ih.coh x.toNat hm.2.1).2 hm.2.2
    rw [getD_eq hxm] at hc
    have hr := ih.at hxm
    have hbl : ((extN A B w i)[x.toNat]).toNat < B.length := by omega
    have hlen := hok i (by omega) hil
    rw [hxe, getD_eq hm.2.1, getD_eq hxm, getD_eq hbl] at hlen
    rw [extN_succ hil hxe hm.2.1 (hm := hxm) (hb := hbl)]
    have hf := bfsK_full (v := 0) (k := A[x.toNat].length) (by rw [near_get hm.2.1]; simp) hin hx
    rw [← hf]
    exact extR_inv hk h0 hin hx hm.2.1 ih hlen.symm (fun e he => hkB _ (List.getElem_mem hbl) e he) (Nat.le_refl _)
def extM (A B : Ends) (w : Int) : List Int := extN A B w (reachL A).length
def ExtAll (A B : Ends) (w : Int) : Prop := ∀ j, j < (reachL A).length → ExtAt A B w j
theorem extN_stop {A B : Ends} {w : Int} {k : Nat} (h : (reachL A).length ≤ k) : extN A B w k = extM A B w := by
  obtain ⟨j, rfl⟩ : ∃ j, k = (reachL A).length + j := ⟨k - (reachL A).length, by omega⟩
  clear h
  induction j with
  | zero => rfl
  | succ j ih => rw [← Nat.add_assoc, extN, List.getElem?_eq_none (by omega)]; exact ih
end Go.Proofs.Ytjnkkadbfigmpaa
