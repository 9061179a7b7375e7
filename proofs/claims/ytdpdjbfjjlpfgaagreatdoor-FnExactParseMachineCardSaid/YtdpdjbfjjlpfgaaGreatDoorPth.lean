/- The parsers as functions of the bytes: a line, the fold over the lines, and that a text of a valid machine gives the machine back. -/
import Derived.Test.YtdpdjbfjjlpfgaaGreatDoorPwls
namespace Go.Proofs.YtdpdjbfjjlpfgaaGreatDoor
open Go Go.RowKit

/-- Lines read one after the other. -/
def runM (f : Nat → Mach → List UInt8 → Option Mach) : Nat → Mach → List (List UInt8) → Option Mach
  | _, M, [] => some M
  | k, M, l :: r => (f k M l).bind fun M' => runM f (k + 1) M' r
section
variable {f : Nat → Mach → List UInt8 → Option Mach} {k : Nat} {M : Mach} {a b : List (List UInt8)} {l : List UInt8}
theorem runM_app : runM f k M (a ++ b) = (runM f k M a).bind fun M' => runM f (k + a.length) M' b := by
  induction a generalizing k M with
  | nil => rfl
  | cons x r ih =>
    rw [List.cons_append, runM, runM]
    cases f k M x with
    | none => rfl
    | some M' => simp only [Option.bind_some]; rw [ih, List.length_cons, show k + 1 + r.length = k + (r.length + 1) by omega]
theorem runM_one : runM f k M [l] = f k M l := by rw [runM]; cases f k M l <;> rfl
theorem runM_take {ls : List (List UInt8)} {i : Nat} (h : i < ls.length) {M' : Mach} (e : runM f 0 M (ls.take i) = some M') : runM f 0 M (ls.take (i + 1)) = f i M' ls[i] := by
  rw [List.take_succ_eq_append_getElem h, runM_app, e, Option.bind_some, runM_one]
  congr 1
  rw [List.length_take]; omega
theorem runM_bad {ls : List (List UInt8)} {i : Nat} (e : runM f 0 M (ls.take i) = none) : runM f 0 M ls = none := by
  rw [← List.take_append_drop i ls, runM_app, e]; rfl
end
def linesLen (ls : List (List UInt8)) : Nat := (ls.map fun x => x.length + 1).sum
theorem linesLen_app {a b : List (List UInt8)} : linesLen (a ++ b) = linesLen a + linesLen b := by simp [linesLen]
theorem linesLen_take {ls : List (List UInt8)} (i : Nat) : linesLen (ls.take i) ≤ linesLen ls := by
  have e : linesLen (ls.take i ++ ls.drop i) = linesLen ls := by rw [List.take_append_drop]
  rw [linesLen_app] at e; omega
theorem linesLen_spl {c : UInt8} {l : List UInt8} : linesLen (spl c l) = l.length + 1 := by
  induction l with
  | nil => rfl
  | cons b l ih =>
    rw [spl]
    split
    · simp only [linesLen, List.map_cons, List.sum_cons, List.length_nil, List.length_cons] at ih ⊢; omega
    · split
      · rename_i e; exact absurd e spl_ne
      · rename_i h t e
        rw [e] at ih
        simp only [linesLen, List.map_cons, List.sum_cons, List.length_cons] at ih ⊢; omega
theorem linesLen_ge {ls : List (List UInt8)} : ls.length ≤ linesLen ls := by
  induction ls with
  | nil => exact Nat.zero_le _
  | cons x r ih => simp only [linesLen, List.map_cons, List.sum_cons, List.length_cons] at ih ⊢; omega
theorem linesLen_at {ls : List (List UInt8)} {i : Nat} (h : i < ls.length) : linesLen (ls.take (i + 1)) = linesLen (ls.take i) + (ls[i].length + 1) := by
  rw [List.take_succ_eq_append_getElem h, linesLen_app]; simp [linesLen]
theorem runM_tot {f : Nat → Mach → List UInt8 → Option Mach} (hf : ∀ k M l M', f k M l = some M' → totM M' ≤ totM M + (l.length + 1)) : ∀ {ls : List (List UInt8)} {k : Nat} {M M' : Mach}, runM f k M ls = some M' → totM M' ≤ totM M + linesLen ls := by
  intro ls
  induction ls with
  | nil => intro k M M' h; cases h; exact Nat.le_refl _
  | cons x r ih =>
    intro k M M' h
    rw [runM] at h
    cases hx : f k M x with
    | none => rw [hx] at h; cases h
    | some M1 =>
      rw [hx] at h
      have h1 := ih h
      have h2 := hf _ _ _ _ hx
      simp only [linesLen, List.map_cons, List.sum_cons] at h1 ⊢
      omega
theorem words_len {l : List UInt8} : ((spl 32 l).headD []).length + ((spl 32 l).drop 1).length ≤ l.length := by
  have h := linesLen_spl (c := 32) (l := l)
  cases e : spl 32 l with
  | nil => exact absurd e spl_ne
  | cons x r =>
    rw [e] at h
    have h2 := linesLen_ge (ls := r)
    simp only [linesLen, List.map_cons, List.sum_cons] at h h2
    simp only [List.headD_cons, List.drop_succ_cons, List.drop_zero]
    omega
theorem totL_snoc {α : Type} {xs : List (List α)} {x : List α} : totL (xs ++ [x]) = totL xs + 1 + x.length := by simp [totL]; omega
theorem totC_snoc {xs : List Cl} {x : Cl} : totC (xs ++ [x]) = totC xs + 1 + x.2.1.length := by simp [totC]; omega

/-! ### The program's line -/
def addCl (M : Mach) (c : Cl) : Mach := { M with clauses := M.clauses ++ [c] }
def addSt (M : Mach) (r : List Int) : Mach := { M with start := M.start ++ [r] }
def addSe (M : Mach) (r : List Int) : Mach := { M with send := M.send ++ [r] }
def setOut (M : Mach) (i x : Int) : Mach := { M with output := M.output.set i.toNat x }
def hdM (M : Mach) (ns : List Int) (o : List Int) : Mach := { M with deg := ns.getD 0 0, states := ns.getD 1 0, msgs := ns.getD 2 0, output := o }
def outI (n : Int) : List Int := List.replicate (min (max n 0) 12).toNat (-1)
def wH (l : List UInt8) : List UInt8 := (spl 32 l).headD []
def wT (l : List UInt8) : List (List UInt8) := (spl 32 l).drop 1
open Classical in
noncomputable def lineI (_ : Nat) (M : Mach) (l : List UInt8) : Option Mach :=
  if wH l = wWhen then (clauseI (wT l)).map (addCl M)
  else if okNums gI (wT l) then
    (if wH l = wMachine ∧ (numsOf gI (wT l)).length = 4 then some (hdM M (numsOf gI (wT l)) (outI ((numsOf gI (wT l)).getD 1 0)))
    else if wH l = wStart then some (addSt M (numsOf gI (wT l)))
    else if wH l = wSend then some (addSe M (numsOf gI (wT l)))
    else if wH l = wGive ∧ (numsOf gI (wT l)).length = 2 ∧ 0 ≤ (numsOf gI (wT l)).getD 0 0 ∧ (numsOf gI (wT l)).getD 0 0 ≤ (M.output.length : Int) - 1 then some (setOut M ((numsOf gI (wT l)).getD 0 0) ((numsOf gI (wT l)).getD 1 0))
    else none)
  else none
section
variable {k : Nat} {M : Mach} {l : List UInt8} {ns : List Int} {o : Option Cl}
theorem lineI_when (h : wH l = wWhen) (e : clauseI (wT l) = o) : lineI k M l = o.map (addCl M) := by unfold lineI; rw [if_pos h, e]
theorem lineI_bad (h : ¬ wH l = wWhen) (e : ¬ okNums gI (wT l)) : lineI k M l = none := by unfold lineI; rw [if_neg h, if_neg e]
theorem lineI_mach (h : ¬ wH l = wWhen) (e : okNums gI (wT l)) (en : ns = numsOf gI (wT l)) (h1 : wH l = wMachine) (h2 : ns.length = 4) : lineI k M l = some (hdM M ns (outI (ns.getD 1 0))) := by
  subst en; unfold lineI; rw [if_neg h, if_pos e, if_pos ⟨h1, h2⟩]
theorem lineI_start (h : ¬ wH l = wWhen) (e : okNums gI (wT l)) (en : ns = numsOf gI (wT l)) (h1 : ¬ (wH l = wMachine ∧ ns.length = 4)) (h2 : wH l = wStart) : lineI k M l = some (addSt M ns) := by
  subst en; unfold lineI; rw [if_neg h, if_pos e, if_neg h1, if_pos h2]
theorem lineI_send (h : ¬ wH l = wWhen) (e : okNums gI (wT l)) (en : ns = numsOf gI (wT l)) (h1 : ¬ (wH l = wMachine ∧ ns.length = 4)) (h2 : ¬ wH l = wStart) (h3 : wH l = wSend) : lineI k M l = some (addSe M ns) := by
  subst en; unfold lineI; rw [if_neg h, if_pos e, if_neg h1, if_neg h2, if_pos h3]
theorem lineI_give (h : ¬ wH l = wWhen) (e : okNums gI (wT l)) (en : ns = numsOf gI (wT l)) (h1 : ¬ (wH l = wMachine ∧ ns.length = 4)) (h2 : ¬ wH l = wStart) (h3 : ¬ wH l = wSend) (h4 : wH l = wGive ∧ ns.length = 2 ∧ 0 ≤ ns.getD 0 0 ∧ ns.getD 0 0 ≤ (M.output.length : Int) - 1) : lineI k M l = some (setOut M (ns.getD 0 0) (ns.getD 1 0)) := by
  subst en; unfold lineI; rw [if_neg h, if_pos e, if_neg h1, if_neg h2, if_neg h3, if_pos h4]
theorem lineI_none (h : ¬ wH l = wWhen) (e : okNums gI (wT l)) (en : ns = numsOf gI (wT l)) (h1 : ¬ (wH l = wMachine ∧ ns.length = 4)) (h2 : ¬ wH l = wStart) (h3 : ¬ wH l = wSend) (h4 : ¬ (wH l = wGive ∧ ns.length = 2 ∧ 0 ≤ ns.getD 0 0 ∧ ns.getD 0 0 ≤ (M.output.length : Int) - 1)) : lineI k M l = none := by
  subst en; unfold lineI; rw [if_neg h, if_pos e, if_neg h1, if_neg h2, if_neg h3, if_neg h4]
end
theorem clOf_len {ns : List Int} : (clOf ns).2.1.length ≤ ns.length := by unfold clOf; simp; omega
theorem outI_len (n : Int) : (outI n).length ≤ 12 := by unfold outI; rw [List.length_replicate]; omega
theorem lineI_tot {k : Nat} {M M' : Mach} {l : List UInt8} (h : lineI k M l = some M') : totM M' ≤ totM M + (l.length + 1) := by
  have hw : (wH l).length + (wT l).length ≤ l.length := words_len
  unfold lineI at h
  split at h
  · rename_i h1
    unfold clauseI at h
    split at h
    · rename_i h2
      cases h
      have h3 := clOf_len (ns := numsOf gI (cwds (wT l) (idxW (wT l) wThn).toNat))
      rw [numsOf_len, cwds_len (by omega)] at h3
      unfold totM addCl
      simp only [totC_snoc]
      omega
    · cases h
  · split at h
    · rename_i h1 h2
      have hl : (numsOf gI (wT l)).length = (wT l).length := numsOf_len
      split at h
      · rename_i h3
        cases h
        have h4 := outI_len ((numsOf gI (wT l)).getD 1 0)
        have h5 : wMachine.length = 7 := rfl
        rw [h3.1, h5, ← hl, h3.2] at hw
        unfold totM hdM
        simp only []
        omega
      · split at h
        · cases h; unfold totM addSt; simp only [totL_snoc]; omega
        · split at h
          · cases h; unfold totM addSe; simp only [totL_snoc]; omega
          · split at h
            · cases h; unfold totM setOut; simp only [List.length_set]; omega
            · cases h
    · cases h

end Go.Proofs.YtdpdjbfjjlpfgaaGreatDoor
