/- Splitting a text, and reading numbers: what the parsers of machines compute. -/
import Derived.Lib.SplitLaws
import Derived.Lib.IndexBytes
import Derived.Lib.AtoiAll
import Derived.Test.YtdpdjbfjjlpfgaaGreatDoorMtx
namespace Go.Proofs.YtdpdjbfjjlpfgaaGreatDoor
open Go Go.RowKit

/-- A list of bytes cut at each c. -/
def spl (c : UInt8) : List UInt8 → List (List UInt8)
  | [] => [[]]
  | b :: l => if b = c then [] :: spl c l else match spl c l with
    | [] => [[b]]
    | h :: t => (b :: h) :: t
section
variable {c b : UInt8} {l x y : List UInt8} {ls : List (List UInt8)}
theorem spl_ne : spl c l ≠ [] := by
  cases l with
  | nil => simp [spl]
  | cons b l =>
    unfold spl
    split
    · simp
    · split <;> simp
theorem spl_one (h : c ∉ l) : spl c l = [l] := by
  induction l with
  | nil => rfl
  | cons b l ih =>
    have h1 : ¬ b = c := fun e => h (e ▸ List.mem_cons_self ..)
    unfold spl
    rw [if_neg h1, ih fun hm => h (List.mem_cons_of_mem _ hm)]
theorem spl_app (h : c ∉ x) : spl c (x ++ c :: l) = x :: spl c l := by
  induction x with
  | nil => simp [spl]
  | cons b x ih =>
    have h1 : ¬ b = c := fun e => h (e ▸ List.mem_cons_self ..)
    show spl c (b :: (x ++ c :: l)) = _
    rw [spl, if_neg h1, ih fun hm => h (List.mem_cons_of_mem _ hm)]
theorem spl_len : (spl c l).length ≤ l.length + 1 := by
  induction l with
  | nil => exact Nat.le_refl _
  | cons b l ih =>
    unfold spl
    split
    · simp only [List.length_cons]; omega
    · split
      · simp
      · rename_i h t e
        rw [e] at ih
        simp only [List.length_cons] at ih ⊢
        omega
theorem spl_mem (h : x ∈ spl c l) : x.length ≤ l.length := by
  induction l generalizing x with
  | nil => simp [spl] at h; subst h; exact Nat.le_refl _
  | cons b l ih =>
    unfold spl at h
    split at h
    · rcases List.mem_cons.1 h with rfl | h
      · exact Nat.zero_le _
      · have := ih h; simp only [List.length_cons]; omega
    · split at h
      · simp at h; subst h; simp
      · rename_i hd t e
        rcases List.mem_cons.1 h with rfl | h
        · have := ih (x := hd) (by rw [e]; exact List.mem_cons_self ..); simp only [List.length_cons]; omega
        · have := ih (x := x) (by rw [e]; exact List.mem_cons_of_mem _ h); simp only [List.length_cons]; omega
/-- Lines that are joined are cut again. -/
theorem spl_join : ∀ {ls : List (List UInt8)}, ls ≠ [] → (∀ l ∈ ls, c ∉ l) → spl c (Lib.join ls [c]) = ls := by
  intro ls
  induction ls with
  | nil => intro h; exact absurd rfl h
  | cons x r ih =>
    intro _ h
    cases r with
    | nil => rw [show Lib.join [x] [c] = x by simp [Lib.join, List.intercalate, List.intersperse]]; exact spl_one (h x (List.mem_cons_self ..))
    | cons y r =>
      have e : Lib.join (x :: y :: r) [c] = x ++ c :: Lib.join (y :: r) [c] := by simp [Lib.join, List.intercalate, List.intersperse]
      rw [e, spl_app (h x (List.mem_cons_self ..)), ih (by simp) fun l hl => h l (List.mem_cons_of_mem _ hl)]
theorem spl_text : ∀ {ls : List (List UInt8)}, (∀ l ∈ ls, (10 : UInt8) ∉ l) → spl 10 (mtext ls) = ls ++ [[]] := by
  intro ls
  induction ls with
  | nil => intro _; rfl
  | cons x r ih =>
    intro h
    have e : mtext (x :: r) = x ++ 10 :: mtext r := by simp [mtext]
    rw [e, spl_app (h x (List.mem_cons_self ..)), ih fun l hl => h l (List.mem_cons_of_mem _ hl)]
    rfl
theorem idx_none : Lib.indexByte l c = -1 ↔ c ∉ l := by
  induction l with
  | nil => simp [Lib.indexByte]
  | cons b l ih =>
    have hg := Lib.indexByte_ge l c
    unfold Lib.indexByte
    by_cases h : b = c
    · subst h; simp
    · have h' : (b == c) = false := by simpa using h
      have hc : ¬ c = b := fun e => h e.symm
      rw [h']
      simp only [Bool.false_eq_true, if_false, List.mem_cons, hc, false_or, ← ih]
      split
      · rename_i h1; simp at h1; simp [h1]
      · rename_i h1; simp at h1; omega
theorem idx_some {i : Nat} (h : Lib.indexByte l c = i) : c ∉ l.take i ∧ l = l.take i ++ c :: l.drop (i + 1) := by
  induction l generalizing i with
  | nil => simp [Lib.indexByte] at h
  | cons b l ih =>
    have hg := Lib.indexByte_ge l c
    unfold Lib.indexByte at h
    by_cases hb : b = c
    · subst hb
      simp at h
      have : i = 0 := by omega
      subst this
      simp
    · have h' : (b == c) = false := by simpa using hb
      rw [h'] at h
      simp only [Bool.false_eq_true, if_false] at h
      split at h
      · omega
      · rename_i h1
        simp at h1
        obtain ⟨j, hj⟩ : ∃ j : Nat, Lib.indexByte l c = j := ⟨(Lib.indexByte l c).toNat, by omega⟩
        have : i = j + 1 := by omega
        subst this
        obtain ⟨h2, h3⟩ := ih hj
        refine ⟨fun hm => ?_, ?_⟩
        · rw [List.take_succ_cons] at hm
          rcases List.mem_cons.1 hm with e | hm
          · exact hb e.symm
          · exact h2 hm
        · rw [List.take_succ_cons, List.drop_succ_cons, List.cons_append, ← h3]
/-- The library's cut is this one. -/
theorem split_spl : ∀ (n : Nat) (l : List UInt8), l.length ≤ n → Lib.splitK [c] 0 (Lib.countFrom [c] (n + 1) l) l = spl c l := by
  intro n
  induction n with
  | zero =>
    intro l hl
    have : l = [] := List.eq_nil_of_length_eq_zero (by omega)
    subst this
    simp [Lib.countFrom, Lib.index, Lib.splitK, spl]
  | succ n ih =>
    intro l hl
    unfold Lib.countFrom
    by_cases h : Lib.index l [c] = -1
    · rw [if_pos (by simpa using h)]
      rw [Lib.index_one] at h
      rw [spl_one (idx_none.1 h)]; rfl
    · rw [if_neg (by simpa using h)]
      have hg := Lib.index_ge l [c]
      obtain ⟨i, hi⟩ : ∃ i : Nat, Lib.index l [c] = i := ⟨(Lib.index l [c]).toNat, by omega⟩
      rw [Nat.add_comm 1]
      unfold Lib.splitK
      rw [if_neg (by simpa using h), hi]
      rw [Lib.index_one] at hi
      obtain ⟨h2, h3⟩ := idx_some hi
      simp only [Int.toNat_natCast, List.length_cons, List.length_nil, Nat.add_zero, Nat.zero_add]
      have hl2 : (l.drop (i + 1)).length ≤ n := by
        have e := congrArg List.length h3
        rw [List.length_append, List.length_cons] at e
        omega
      rw [ih _ hl2]
      conv => rhs; rw [h3]
      rw [spl_app h2]
theorem split_eq : Lib.split l [c] = spl c l := split_spl l.length l (Nat.le_refl _)
end

end Go.Proofs.YtdpdjbfjjlpfgaaGreatDoor
