/- The reference's line; both readers give back the machine whose text they are handed. -/
import Derived.Test.YtdpdjbfjjlpfgaaGreatDoorPth
namespace Go.Proofs.YtdpdjbfjjlpfgaaGreatDoor
open Go Go.RowKit

/-- The last then before i, or the length. -/
def thU (ws : List (List UInt8)) : Nat → Nat
  | 0 => ws.length
  | i + 1 => if ws.getD i [] = wThn then i else thU ws i
def thS (l : List UInt8) : Nat := thU (spl 32 l) (spl 32 l).length
def wS (l : List UInt8) : List (List UInt8) := ((spl 32 l).take (max (thS l) 1)).drop 1
theorem thU_le {ws : List (List UInt8)} : ∀ {i : Nat}, i ≤ ws.length → thU ws i ≤ ws.length := by
  intro i
  induction i with
  | zero => intro _; exact Nat.le_refl _
  | succ i ih =>
    intro h
    unfold thU
    split
    · omega
    · exact ih (by omega)
theorem thU_yes {ws : List (List UInt8)} {i : Nat} {h : i < ws.length} (e : ws[i] = wThn) : thU ws (i + 1) = i := by rw [thU, getD_eq h, if_pos e]
theorem thU_no {ws : List (List UInt8)} {i : Nat} {h : i < ws.length} (e : ¬ ws[i] = wThn) : thU ws (i + 1) = thU ws i := by rw [thU, getD_eq h, if_neg e]
theorem thU_none {ws : List (List UInt8)} (h : wThn ∉ ws) : ∀ {i : Nat}, i ≤ ws.length → thU ws i = ws.length := by
  intro i
  induction i with
  | zero => intro _; rfl
  | succ i ih => intro hi; rw [thU_no (h := hi) (fun e => h (e ▸ List.getElem_mem hi)), ih (by omega)]
theorem thU_two {a : List (List UInt8)} {x : List UInt8} (hx : x ≠ wThn) : thU (a ++ [wThn, x]) (a ++ [wThn, x]).length = a.length := by
  have hl : (a ++ [wThn, x]).length = a.length + 1 + 1 := by simp
  rw [hl, thU_no (h := by omega) (by simp [hx]), thU_yes (h := by omega) (by simp)]
def padO (o : List Int) (n : Int) : List Int := o ++ List.replicate (n.toNat - o.length) (-1)
open Classical in
noncomputable def lineS (k : Nat) (M : Mach) (l : List UInt8) : Option Mach :=
  if okNums gS (wS l) then
    (if wH l = wMachine ∧ k = 0 ∧ (numsOf gS (wS l)).length = 4 then
      (if 1 ≤ (numsOf gS (wS l)).getD 1 0 ∧ (numsOf gS (wS l)).getD 1 0 ≤ 12 then some (hdM M (numsOf gS (wS l)) (padO M.output ((numsOf gS (wS l)).getD 1 0))) else none)
    else if wH l = wStart then some (addSt M (numsOf gS (wS l)))
    else if wH l = wSend then some (addSe M (numsOf gS (wS l)))
    else if wH l = wWhen ∧ 0 < (numsOf gS (wS l)).length ∧ thS l + 2 = (spl 32 l).length then some (addCl M ((numsOf gS (wS l)).getD 0 0, (numsOf gS (wS l)).drop 1, rdS ((spl 32 l).getD (thS l + 1) [])))
    else if wH l = wGive ∧ (numsOf gS (wS l)).length = 2 ∧ 0 ≤ (numsOf gS (wS l)).getD 0 0 ∧ (numsOf gS (wS l)).getD 0 0 ≤ (M.output.length : Int) - 1 then some (setOut M ((numsOf gS (wS l)).getD 0 0) ((numsOf gS (wS l)).getD 1 0))
    else none)
  else none
section
variable {k : Nat} {M : Mach} {l : List UInt8} {ns : List Int}
theorem lineS_bad (e : ¬ okNums gS (wS l)) : lineS k M l = none := by unfold lineS; rw [if_neg e]
theorem lineS_mach (e : okNums gS (wS l)) (en : ns = numsOf gS (wS l)) (h1 : wH l = wMachine ∧ k = 0 ∧ ns.length = 4) (h2 : 1 ≤ ns.getD 1 0 ∧ ns.getD 1 0 ≤ 12) : lineS k M l = some (hdM M ns (padO M.output (ns.getD 1 0))) := by
  subst en; unfold lineS; rw [if_pos e, if_pos h1, if_pos h2]
theorem lineS_mno (e : okNums gS (wS l)) (en : ns = numsOf gS (wS l)) (h1 : wH l = wMachine ∧ k = 0 ∧ ns.length = 4) (h2 : ¬ (1 ≤ ns.getD 1 0 ∧ ns.getD 1 0 ≤ 12)) : lineS k M l = none := by
  subst en; unfold lineS; rw [if_pos e, if_pos h1, if_neg h2]
theorem lineS_start (e : okNums gS (wS l)) (en : ns = numsOf gS (wS l)) (h1 : ¬ (wH l = wMachine ∧ k = 0 ∧ ns.length = 4)) (h2 : wH l = wStart) : lineS k M l = some (addSt M ns) := by
  subst en; unfold lineS; rw [if_pos e, if_neg h1, if_pos h2]
theorem lineS_send (e : okNums gS (wS l)) (en : ns = numsOf gS (wS l)) (h1 : ¬ (wH l = wMachine ∧ k = 0 ∧ ns.length = 4)) (h2 : ¬ wH l = wStart) (h3 : wH l = wSend) : lineS k M l = some (addSe M ns) := by
  subst en; unfold lineS; rw [if_pos e, if_neg h1, if_neg h2, if_pos h3]
theorem lineS_when (e : okNums gS (wS l)) (en : ns = numsOf gS (wS l)) (h1 : ¬ (wH l = wMachine ∧ k = 0 ∧ ns.length = 4)) (h2 : ¬ wH l = wStart) (h3 : ¬ wH l = wSend) (h4 : wH l = wWhen ∧ 0 < ns.length ∧ thS l + 2 = (spl 32 l).length) : lineS k M l = some (addCl M (ns.getD 0 0, ns.drop 1, rdS ((spl 32 l).getD (thS l + 1) []))) := by
  subst en; unfold lineS; rw [if_pos e, if_neg h1, if_neg h2, if_neg h3, if_pos h4]
theorem lineS_give (e : okNums gS (wS l)) (en : ns = numsOf gS (wS l)) (h1 : ¬ (wH l = wMachine ∧ k = 0 ∧ ns.length = 4)) (h2 : ¬ wH l = wStart) (h3 : ¬ wH l = wSend) (h4 : ¬ (wH l = wWhen ∧ 0 < ns.length ∧ thS l + 2 = (spl 32 l).length)) (h5 : wH l = wGive ∧ ns.length = 2 ∧ 0 ≤ ns.getD 0 0 ∧ ns.getD 0 0 ≤ (M.output.length : Int) - 1) : lineS k M l = some (setOut M (ns.getD 0 0) (ns.getD 1 0)) := by
  subst en; unfold lineS; rw [if_pos e, if_neg h1, if_neg h2, if_neg h3, if_neg h4, if_pos h5]
theorem lineS_none (e : okNums gS (wS l)) (en : ns = numsOf gS (wS l)) (h1 : ¬ (wH l = wMachine ∧ k = 0 ∧ ns.length = 4)) (h2 : ¬ wH l = wStart) (h3 : ¬ wH l = wSend) (h4 : ¬ (wH l = wWhen ∧ 0 < ns.length ∧ thS l + 2 = (spl 32 l).length)) (h5 : ¬ (wH l = wGive ∧ ns.length = 2 ∧ 0 ≤ ns.getD 0 0 ∧ ns.getD 0 0 ≤ (M.output.length : Int) - 1)) : lineS k M l = none := by
  subst en; unfold lineS; rw [if_pos e, if_neg h1, if_neg h2, if_neg h3, if_neg h4, if_neg h5]
theorem spl_pos {c : UInt8} {l : List UInt8} : 0 < (spl c l).length := List.length_pos_iff.2 spl_ne
theorem wS_len : (wS l).length ≤ (wT l).length := by
  unfold wS wT
  rw [List.length_drop, List.length_take, List.length_drop]; omega
end
theorem lineS_tot {k : Nat} {M M' : Mach} {l : List UInt8} (h : lineS k M l = some M') : totM M' ≤ totM M + (l.length + 1) := by
  have hw : (wH l).length + (wT l).length ≤ l.length := words_len
  have hs := wS_len (l := l)
  unfold lineS at h
  split at h
  · rename_i h2
    have hl : (numsOf gS (wS l)).length = (wS l).length := numsOf_len
    split at h
    · rename_i h3
      split at h
      · rename_i h4
        cases h
        have h5 : wMachine.length = 7 := rfl
        rw [h3.1, h5] at hw
        have h6 := h3.2.2
        have h7 : (padO M.output ((numsOf gS (wS l)).getD 1 0)).length ≤ M.output.length + 12 := by unfold padO; rw [List.length_append, List.length_replicate]; omega
        unfold totM hdM
        simp only []
        omega
      · cases h
    · split at h
      · cases h; unfold totM addSt; simp only [totL_snoc]; omega
      · split at h
        · cases h; unfold totM addSe; simp only [totL_snoc]; omega
        · split at h
          · cases h; unfold totM addCl; simp only [totC_snoc, List.length_drop]; omega
          · split at h
            · cases h; unfold totM setOut; simp only [List.length_set]; omega
            · cases h
  · cases h

/-! ### The round trip -/
structure Reader (f : Nat → Mach → List UInt8 → Option Mach) : Prop where
  head : ∀ m, MOk m → f 0 zeroM (hdL m) = some { zeroM with deg := m.deg, states := m.states, msgs := m.msgs, output := List.replicate m.states.toNat (-1) }
  start : ∀ k M r, (∀ x ∈ r, -1 ≤ x ∧ x < 100) → f k M (lineW wStart r) = some (addSt M r)
  send : ∀ k M r, (∀ x ∈ r, -1 ≤ x ∧ x < 100) → f k M (lineW wSend r) = some (addSe M r)
  cl : ∀ k M m c, MOk m → c ∈ m.clauses → f k M (clW c) = some (addCl M c)
  give : ∀ k M (i x : Int), 0 ≤ i → i < M.output.length → i < 100 → 0 ≤ x → x < 100 → f k M (lineW wGive [i, x]) = some (setOut M i x)
section
variable {f : Nat → Mach → List UInt8 → Option Mach}
theorem Reader.starts (hf : Reader f) : ∀ {xs : List (List Int)} {k : Nat} {M : Mach}, (∀ r ∈ xs, ∀ x ∈ r, -1 ≤ x ∧ x < 100) → runM f k M (xs.map (lineW wStart)) = some { M with start := M.start ++ xs } := by
  intro xs
  induction xs with
  | nil => intro k M _; simp [runM]
  | cons x r ih =>
    intro k M h
    rw [List.map_cons, runM, hf.start _ _ _ (h x (List.mem_cons_self ..)), Option.bind_some, ih fun y hy => h y (List.mem_cons_of_mem _ hy)]
    simp [addSt]
theorem Reader.sends (hf : Reader f) : ∀ {xs : List (List Int)} {k : Nat} {M : Mach}, (∀ r ∈ xs, ∀ x ∈ r, -1 ≤ x ∧ x < 100) → runM f k M (xs.map (lineW wSend)) = some { M with send := M.send ++ xs } := by
  intro xs
  induction xs with
  | nil => intro k M _; simp [runM]
  | cons x r ih =>
    intro k M h
    rw [List.map_cons, runM, hf.send _ _ _ (h x (List.mem_cons_self ..)), Option.bind_some, ih fun y hy => h y (List.mem_cons_of_mem _ hy)]
    simp [addSe]
theorem Reader.cls (hf : Reader f) {m : Mach} (hm : MOk m) : ∀ {xs : List Cl} {k : Nat} {M : Mach}, (∀ c ∈ xs, c ∈ m.clauses) → runM f k M (xs.map clW) = some { M with clauses := M.clauses ++ xs } := by
  intro xs
  induction xs with
  | nil => intro k M _; simp [runM]
  | cons x r ih =>
    intro k M h
    rw [List.map_cons, runM, hf.cl _ _ m _ hm (h x (List.mem_cons_self ..)), Option.bind_some, ih fun y hy => h y (List.mem_cons_of_mem _ hy)]
    simp [addCl]
theorem outs_step {o : List Int} {i n : Nat} (hi : i < o.length) (hn : n = o.length) (h : o[i] = -1 ∨ True) : (o.take i ++ List.replicate (n - i) (-1)).set i o[i] = o.take (i + 1) ++ List.replicate (n - (i + 1)) (-1) := by
  subst hn
  rw [List.set_append_right _ _ (by rw [List.length_take]; omega), List.length_take, show i - min i o.length = 0 by omega, show o.length - i = (o.length - (i + 1)) + 1 by omega, List.replicate_succ, List.set_cons_zero, ← List.take_append_getElem hi, List.append_assoc]
  rfl
theorem outs_skip {o : List Int} {i n : Nat} (hi : i < o.length) (hn : n = o.length) (h : o[i] = -1) : o.take i ++ List.replicate (n - i) (-1) = o.take (i + 1) ++ List.replicate (n - (i + 1)) (-1) := by
  subst hn
  rw [← List.take_append_getElem hi, h, show o.length - i = (o.length - (i + 1)) + 1 by omega, List.replicate_succ, List.append_assoc]
  rfl
theorem Reader.outs (hf : Reader f) {m : Mach} (hm : MOk m) : ∀ {i : Nat} {k : Nat} {M : Mach}, i ≤ m.output.length → M.output = List.replicate m.output.length (-1) → runM f k M (outW m.output i) = some { M with output := m.output.take i ++ List.replicate (m.output.length - i) (-1) } := by
  intro i
  induction i with
  | zero => intro k M _ h; simp [outW, runM, ← h]
  | succ i ih =>
    intro k M hi h
    have hi' : i < m.output.length := by omega
    have hb := out_x hm (List.getElem_mem hi')
    have hl := hm.outLen
    have hs := hm.states
    by_cases h0 : 0 ≤ m.output[i]
    · rw [outW_yes hi' h0, runM_app, ih (by omega) h, Option.bind_some, runM_one, hf.give _ _ _ _ (by omega) (by simp; omega) (by omega) h0 hb.2]
      simp only [setOut, Int.toNat_natCast]
      rw [outs_step hi' rfl (.inr trivial)]
    · rw [outW_no hi' h0, ih (by omega) h, outs_skip hi' rfl (by omega)]
/-- The text of a valid machine gives the machine. -/
theorem Reader.rt (hf : Reader f) {m : Mach} (hm : MOk m) : runM f 0 zeroM (stD m m.output.length) = some m := by
  have hl := hm.outLen
  have hs := hm.states
  have e : stD m m.output.length = [hdL m] ++ (m.start.map (lineW wStart) ++ (m.send.map (lineW wSend) ++ (m.clauses.map clW ++ outW m.output m.output.length))) := by
    simp [stD, stC, stB, stA]
  rw [e, runM_app, runM_one, hf.head m hm, Option.bind_some, runM_app, hf.starts (fun r hr => (start_x hm hr).1), Option.bind_some, runM_app, hf.sends (fun r hr => (send_x hm hr).1), Option.bind_some, runM_app, hf.cls hm (fun c hc => hc), Option.bind_some, hf.outs hm (Nat.le_refl _) (by simp only []; congr 1; omega)]
  simp [zeroM]
end

end Go.Proofs.YtdpdjbfjjlpfgaaGreatDoor
