/- A machine in memory that a call owns: its slices lie in blocks that are pairwise different, in no order. -/
import Derived.Test.YtdpdjbfjjlpfgaaGreatDoorPth2
import Derived.Test.YtdpdjbfjjlpfgaaGreatDoorRowsH
namespace Go.Proofs.YtdpdjbfjjlpfgaaGreatDoor
open Go Go.RowKit

/-- A part of a datum: the block that it lies in, and what is there. -/
structure Part where
  a : Option Nat
  R : World → Prop
  st : ∀ {F : Nat → Prop} {w w' : World}, R w → Keep F w w' → (∀ b, a = some b → F b) → R w'
def Hold (l r : Nat) (w : World) (ps : List Part) : Prop := r ≤ w.heap.size ∧ (∀ p ∈ ps, p.R w ∧ ∀ b, p.a = some b → l ≤ b ∧ b < r) ∧ ps.Pairwise fun p q => ∀ b, p.a = some b → q.a ≠ some b
section
variable {l r : Nat} {w w' : World} {ps qs : List Part} {p q : Part}
theorem Hold.keep {F : Nat → Prop} (h : Hold l r w ps) (k : Keep F w w') (hF : ∀ b, l ≤ b → b < r → F b) : Hold l r w' ps :=
  ⟨Nat.le_trans h.1 k.size, fun p hp => ⟨p.st (h.2.1 p hp).1 k fun b hb => hF b ((h.2.1 p hp).2 b hb).1 ((h.2.1 p hp).2 b hb).2, (h.2.1 p hp).2⟩, h.2.2⟩
theorem Hold.ext (h : Hold l r w ps) (k : Ext w w') : Hold l r w' ps := h.keep k fun _ _ hb => Nat.lt_of_lt_of_le hb h.1
theorem Hold.perm (h : Hold l r w ps) (k : ps.Perm qs) : Hold l r w qs :=
  ⟨h.1, fun p hp => h.2.1 p (k.mem_iff.2 hp), (k.pairwise_iff fun {x y} hxy b hb hb2 => hxy b hb2 hb).1 h.2.2⟩
theorem Hold.tl (h : Hold l r w (p :: ps)) : Hold l r w ps := ⟨h.1, fun q hq => h.2.1 q (List.mem_cons_of_mem _ hq), (List.pairwise_cons.1 h.2.2).2⟩
theorem Hold.hd (h : Hold l r w (p :: ps)) : p.R w ∧ ∀ b, p.a = some b → l ≤ b ∧ b < r := h.2.1 p (List.mem_cons_self ..)
theorem Hold.up {l' r' : Nat} (h : Hold l r w ps) (h1 : l' ≤ l) (h2 : r ≤ r') (h3 : r' ≤ w.heap.size) : Hold l' r' w ps := ⟨h3, fun p hp => ⟨(h.2.1 p hp).1, fun b hb => by have := (h.2.1 p hp).2 b hb; omega⟩, h.2.2⟩
/-- The first part is changed: in place, or it lies in a new block now. -/
theorem Hold.upd (h : Hold l r w (p :: ps)) (k : Keep (fun k => k < w.heap.size ∧ ∀ b, p.a = some b → k ≠ b) w w') (hq : q.R w') (hb : ∀ b, q.a = some b → p.a = some b ∨ (w.heap.size ≤ b ∧ b < w'.heap.size)) (hl : l ≤ w.heap.size) : Hold l w'.heap.size w' (q :: ps) := by
  have hks := k.size
  have hpw := List.pairwise_cons.1 h.2.2
  refine ⟨Nat.le_refl _, fun x hx => ?_, List.pairwise_cons.2 ⟨fun x hx b h1 h2 => ?_, hpw.2⟩⟩
  · rcases List.mem_cons.1 hx with rfl | hx
    · refine ⟨hq, fun b h1 => ?_⟩
      rcases hb b h1 with h2 | h2
      · have := h.hd.2 b h2; have := h.1; omega
      · omega
    · have h1 := h.2.1 x (List.mem_cons_of_mem _ hx)
      refine ⟨x.st h1.1 k fun b h2 => ⟨by have := h1.2 b h2; have := h.1; omega, fun c hc e => ?_⟩, fun b h2 => by have := h1.2 b h2; have := h.1; omega⟩
      exact hpw.1 x hx c hc (e ▸ h2)
  · have h3 := (h.2.1 x (List.mem_cons_of_mem _ hx)).2 b h2
    rcases hb b h1 with h4 | h4
    · exact hpw.1 x hx b h4 h2
    · have := h.1; omega
theorem Hold.add {r' : Nat} (h : Hold l r w ps) (hq : q.R w) (hb : ∀ b, q.a = some b → r ≤ b ∧ b < r') (h1 : r ≤ r') (h2 : r' ≤ w.heap.size) (h3 : l ≤ r) : Hold l r' w (q :: ps) := by
  refine ⟨h2, fun x hx => ?_, List.pairwise_cons.2 ⟨fun x hx b h4 h5 => ?_, h.2.2⟩⟩
  · rcases List.mem_cons.1 hx with rfl | hx
    · exact ⟨hq, fun b h4 => by have := hb b h4; omega⟩
    · exact ⟨(h.2.1 x hx).1, fun b h4 => by have := (h.2.1 x hx).2 b h4; omega⟩
  · have := hb b h4; have := (h.2.1 x hx).2 b h5; omega
end
def pOwn (E sz : Nat) (a : Option Addr) (n c : Nat) (cs : List Value) : Part := ⟨a.map (·.block), fun w => Own 0 w E sz a n c cs, fun h k hF => h.keep k fun q hq => hF _ (by rw [hq]; rfl)⟩
def pInts (a : Option Addr) (c : Nat) (xs : List Int) : Part := ⟨if xs = [] then none else some (blkOf a), fun w => Ints (blkOf a) (blkOf a + 1) w a c xs, fun {F w w'} h k hF => by
  by_cases e : xs = []
  · subst e; exact ⟨h.1, h.2, .inl rfl⟩
  · rw [if_neg e] at hF
    exact h.keep k fun b h1 h2 => by have : b = blkOf a := by omega
                                     subst this; exact hF _ rfl⟩
def pIntO (a : Option Addr) (c : Nat) (xs : List Int) : Part := pOwn 3 1 a xs.length c (xs.map VI)
theorem own_lift {l sz : Nat} {w : World} {E : TypeId} {a : Option Addr} {n c : Nat} {cs : List Value} (h : Own 0 w E sz a n c cs) (hb : ∀ q, a = some q → l ≤ q.block) : Own l w E sz a n c cs := by
  obtain ⟨h0, h⟩ := h
  refine ⟨h0, ?_⟩
  rcases h with h | ⟨g, cap, cur, hv, _, rest⟩
  · exact .inl h
  · cases hv
    exact .inr ⟨g, c, cur, rfl, hb _ rfl, rest⟩
theorem map_blk {a : Option Addr} {b : Nat} (h : a.map (·.block) = some b) : ∃ q, a = some q ∧ q.block = b := by cases a with | none => cases h | some q => exact ⟨q, rfl, by simpa using h⟩
theorem pOwn.b {a : Option Addr} {q : Addr} {E sz n c : Nat} {cs : List Value} (h : a = some q) : (pOwn E sz a n c cs).a = some q.block := by subst h; rfl
section
variable {l r : Nat} {w w' : World} {ps : List Part} {E sz n c : Nat} {a : Option Addr} {cs : List Value}
theorem Hold.own (h : Hold l r w (pOwn E sz a n c cs :: ps)) : OwnH l r 0 0 w E sz a n c cs :=
  ⟨own_lift h.hd.1 fun q hq => (h.hd.2 _ (pOwn.b hq)).1, fun q hq => ⟨(h.hd.2 _ (pOwn.b hq)).2, .inr (Nat.zero_le _)⟩⟩
/-- The first part was appended to, or written. -/
theorem Hold.grow {lo n' c' : Nat} {a' : Option Addr} {cs' : List Value} (h : Hold l r w (pOwn E sz a n c cs :: ps)) (k : Apd w w' a) (o : Own lo w' E sz a' n' c' cs') (fr : ∀ q, a' = some q → (∃ p, a = some p ∧ q.block = p.block) ∨ w.heap.size ≤ q.block) (hl : l ≤ w.heap.size) : Hold l w'.heap.size w' (pOwn E sz a' n' c' cs' :: ps) := by
  refine h.upd (k.mono fun i hi => ⟨hi.1, fun q hq => ?_⟩) (o.mono (Nat.zero_le _)) (fun b hb => ?_) hl
  · exact hi.2 _ (by rw [hq]; rfl)
  · obtain ⟨q, hq, rfl⟩ := map_blk hb
    rcases fr q hq with ⟨p, hp, e⟩ | h1
    · left; rw [e]; exact pOwn.b hp
    · exact .inr ⟨h1, (o.block q hq).2⟩
end
abbrev V1 (vs : List (Option Addr × Nat)) (xss : List (List Int)) : List Value := (vs.zip xss).map fun p => rowVal p.1 p.2
abbrev V3 (vs : List (Option Addr × Nat)) (cs : List Cl) : List Value := ((vs.zip cs).map fun p => clCells p.1 p.2).flatten
def rowsP (vs : List (Option Addr × Nat)) (xss : List (List Int)) : List Part := (vs.zip xss).map fun p => pIntO p.1.1 p.1.2 p.2
def clsP (K : Option Addr → Nat → List Int → Part) (vs : List (Option Addr × Nat)) (cs : List Cl) : List Part := (vs.zip cs).map fun p => K p.1.1 p.1.2 p.2.2.1
/-- The parts of a machine. -/
def mParts (K : Option Addr → Nat → List Int → Part) (h : MA) (M : Mach) (v1 v2 v3 : List (Option Addr × Nat)) : List Part :=
  pOwn 24 1 h.a1 M.start.length h.c1 (V1 v1 M.start) :: pOwn 24 1 h.a2 M.send.length h.c2 (V1 v2 M.send) :: pOwn 40 3 h.a3 M.clauses.length h.c3 (V3 v3 M.clauses) :: pIntO h.a4 h.c4 M.output :: (rowsP v1 M.start ++ (rowsP v2 M.send ++ clsP K v3 M.clauses))
structure HMv (K : Option Addr → Nat → List Int → Part) (l r : Nat) (w : World) (h : MA) (M : Mach) (v1 v2 v3 : List (Option Addr × Nat)) : Prop where
  l1 : v1.length = M.start.length
  l2 : v2.length = M.send.length
  l3 : v3.length = M.clauses.length
  h : Hold l r w (mParts K h M v1 v2 v3)
def HM (K : Option Addr → Nat → List Int → Part) (l r : Nat) (w : World) (h : MA) (M : Mach) : Prop := ∃ v1 v2 v3, HMv K l r w h M v1 v2 v3
section
variable {K : Option Addr → Nat → List Int → Part} {l r : Nat} {w w' : World} {h : MA} {M : Mach} {v1 v2 v3 : List (Option Addr × Nat)}
theorem HM.keep {F : Nat → Prop} (x : HM K l r w h M) (k : Keep F w w') (hF : ∀ b, l ≤ b → b < r → F b) : HM K l r w' h M := by obtain ⟨v1, v2, v3, y⟩ := x; exact ⟨v1, v2, v3, y.l1, y.l2, y.l3, y.h.keep k hF⟩
theorem HM.rs (x : HM K l r w h M) : r ≤ w.heap.size := by obtain ⟨v1, v2, v3, y⟩ := x; exact y.h.1
theorem HM.ext (x : HM K l r w h M) (k : Ext w w') : HM K l r w' h M := x.keep k fun _ _ hb => Nat.lt_of_lt_of_le hb x.rs
theorem HM.sto {b : Nat} {T : TypeId} {ds : List Value} (x : HM K l r w h M) (k : Sto w w' b T ds) (hb : b < l ∨ r ≤ b) : HM K l r w' h M := x.keep k.keep fun q h1 h2 => by show q ≠ b; omega
theorem HM.rg {lo hi p q : Nat} (x : HM K l r w h M) (k : Rg lo hi p q w w') (hb : (r ≤ lo ∨ hi ≤ l ∨ (p ≤ l ∧ r ≤ q))) : HM K l r w' h M := x.keep k fun b h1 h2 => ⟨by have := x.rs; omega, by omega⟩
theorem HM.lo {b : Nat} (x : HM K l r w h M) (k : Lo b w w') (hb : r ≤ b) : HM K l r w' h M := x.keep k.2 fun i _ h2 => Nat.lt_of_lt_of_le h2 hb
theorem HM.app {a' : Option Addr} {lo' sz' n' c' : Nat} {E : TypeId} {ds : List Value} (x : HM K l r w h M) (k : Apd w w' a') (o : Own lo' w E sz' a' n' c' ds) (hb : r ≤ lo') : HM K l r w' h M :=
  x.keep k fun b h1 h2 => ⟨by have := x.rs; omega, fun p hp => by have := (o.block p hp).1; omega⟩
theorem HM.up {l' r' : Nat} (x : HM K l r w h M) (h1 : l' ≤ l) (h2 : r ≤ r') (h3 : r' ≤ w.heap.size) : HM K l' r' w h M := by obtain ⟨v1, v2, v3, y⟩ := x; exact ⟨v1, v2, v3, y.l1, y.l2, y.l3, y.h.up h1 h2 h3⟩
theorem pair_none {ps : List Part} (h : ∀ p ∈ ps, p.a = none) : ps.Pairwise fun p q => ∀ b, p.a = some b → q.a ≠ some b := by
  induction ps with
  | nil => exact List.Pairwise.nil
  | cons p r ih => exact List.pairwise_cons.2 ⟨fun x _ b hb => (by rw [h p (List.mem_cons_self ..)] at hb; cases hb), ih fun q hq => h q (List.mem_cons_of_mem _ hq)⟩
theorem HM.zero (hl : l ≤ w.heap.size) : HM K l l w ⟨none, 0, none, 0, none, 0, none, 0⟩ zeroM := by
  refine ⟨[], [], [], rfl, rfl, rfl, hl, fun p hp => ?_, ?_⟩
  · simp only [mParts, zeroM, rowsP, clsP, List.zip_nil_left, List.map_nil, List.append_nil, List.mem_cons, List.not_mem_nil, or_false] at hp
    rcases hp with rfl | rfl | rfl | rfl <;> exact ⟨Own.nil _ _ _ _, fun b hb => by cases hb⟩
  · simp only [mParts, zeroM, rowsP, clsP, List.zip_nil_left, List.map_nil, List.append_nil]
    exact pair_none fun p hp => by
      simp only [List.mem_cons, List.not_mem_nil, or_false] at hp
      rcases hp with rfl | rfl | rfl | rfl <;> rfl
theorem V1_snoc {vs : List (Option Addr × Nat)} {xss : List (List Int)} {a : Option Addr} {c : Nat} {y : List Int} (hl : vs.length = xss.length) : V1 (vs ++ [(a, c)]) (xss ++ [y]) = V1 vs xss ++ [.slice a y.length c] := by
  simp only [V1]; rw [List.zip_append hl, List.map_append]; rfl
theorem V3_snoc {vs : List (Option Addr × Nat)} {xss : List Cl} {a : Option Addr} {c : Nat} {y : Cl} (hl : vs.length = xss.length) : V3 (vs ++ [(a, c)]) (xss ++ [y]) = V3 vs xss ++ [VI y.1, .slice a y.2.1.length c, VI y.2.2] := by
  simp only [V3]; rw [List.zip_append hl, List.map_append, List.flatten_append]; rfl
theorem rowsP_snoc {vs : List (Option Addr × Nat)} {xss : List (List Int)} {a : Option Addr} {c : Nat} {y : List Int} (hl : vs.length = xss.length) : rowsP (vs ++ [(a, c)]) (xss ++ [y]) = rowsP vs xss ++ [pIntO a c y] := by
  simp only [rowsP]; rw [List.zip_append hl, List.map_append]; rfl
theorem clsP_snoc {vs : List (Option Addr × Nat)} {xss : List Cl} {a : Option Addr} {c : Nat} {y : Cl} (hl : vs.length = xss.length) : clsP K (vs ++ [(a, c)]) (xss ++ [y]) = clsP K vs xss ++ [K a c y.2.1] := by
  simp only [clsP]; rw [List.zip_append hl, List.map_append]; rfl
theorem perm_mv {α : Type} (a b : List α) (x : α) : (x :: (a ++ b)).Perm (a ++ x :: b) := List.perm_middle.symm
theorem perm_out {α : Type} (a b : List α) (x : α) : (a ++ x :: b).Perm (x :: (a ++ b)) := List.perm_middle
/-- A row is added to the starts. -/
theorem HMv.addSt {lo r' : Nat} (x : HMv K l r w h M v1 v2 v3) {a2 a' : Option Addr} {c2 c' : Nat} {ys : List Int} (hy : OwnH lo r' 0 0 w 3 1 a2 ys.length c2 (ys.map VI)) (hlo : r ≤ lo ∧ r ≤ r' ∧ r' ≤ w.heap.size ∧ l ≤ r) (k : Apd w w' h.a1) (o : Own l w' 24 1 a' (M.start.length + 1) c' (V1 v1 M.start ++ [.slice a2 ys.length c2]))
    (fr : ∀ q, a' = some q → (∃ p, h.a1 = some p ∧ q.block = p.block) ∨ w.heap.size ≤ q.block) : HM K l w'.heap.size w' { h with a1 := a', c1 := c' } (addSt M ys) := by
  have h1 : Hold l r' w (pIntO a2 c2 ys :: mParts K h M v1 v2 v3) := x.h.add (hy.1.mono (Nat.zero_le _)) (fun b hb => by obtain ⟨q, hq, rfl⟩ := map_blk hb; have := (hy.1.block q hq).1; have := (hy.2 q hq).1; omega) hlo.2.1 hlo.2.2.1 hlo.2.2.2
  have h2 := (h1.perm (List.Perm.swap _ _ _)).grow k o fr (by omega)
  refine ⟨v1 ++ [(a2, c2)], v2, v3, by show (v1 ++ [(a2, c2)]).length = (M.start ++ [ys]).length; simp [x.l1], x.l2, x.l3, ?_⟩
  show Hold l _ w' (pOwn 24 1 a' (M.start ++ [ys]).length c' (V1 (v1 ++ [(a2, c2)]) (M.start ++ [ys])) :: pOwn 24 1 h.a2 M.send.length h.c2 (V1 v2 M.send) :: pOwn 40 3 h.a3 M.clauses.length h.c3 (V3 v3 M.clauses) :: pIntO h.a4 h.c4 M.output :: (rowsP (v1 ++ [(a2, c2)]) (M.start ++ [ys]) ++ (rowsP v2 M.send ++ clsP K v3 M.clauses)))
  rw [V1_snoc x.l1, rowsP_snoc x.l1, List.length_append]
  refine h2.perm (.cons _ ?_)
  simpa using perm_mv ([pOwn 24 1 h.a2 M.send.length h.c2 (V1 v2 M.send), pOwn 40 3 h.a3 M.clauses.length h.c3 (V3 v3 M.clauses), pIntO h.a4 h.c4 M.output] ++ rowsP v1 M.start) (rowsP v2 M.send ++ clsP K v3 M.clauses) (pIntO a2 c2 ys)
/-- A row is added to the sends. -/
theorem HMv.addSe {lo r' : Nat} (x : HMv K l r w h M v1 v2 v3) {a2 a' : Option Addr} {c2 c' : Nat} {ys : List Int} (hy : OwnH lo r' 0 0 w 3 1 a2 ys.length c2 (ys.map VI)) (hlo : r ≤ lo ∧ r ≤ r' ∧ r' ≤ w.heap.size ∧ l ≤ r) (k : Apd w w' h.a2) (o : Own l w' 24 1 a' (M.send.length + 1) c' (V1 v2 M.send ++ [.slice a2 ys.length c2]))
    (fr : ∀ q, a' = some q → (∃ p, h.a2 = some p ∧ q.block = p.block) ∨ w.heap.size ≤ q.block) : HM K l w'.heap.size w' { h with a2 := a', c2 := c' } (addSe M ys) := by
  have h1 : Hold l r' w (pIntO a2 c2 ys :: mParts K h M v1 v2 v3) := x.h.add (hy.1.mono (Nat.zero_le _)) (fun b hb => by obtain ⟨q, hq, rfl⟩ := map_blk hb; have := (hy.1.block q hq).1; have := (hy.2 q hq).1; omega) hlo.2.1 hlo.2.2.1 hlo.2.2.2
  have h2 := (h1.perm (perm_out [_, _] _ _)).grow k o fr (by omega)
  refine ⟨v1, v2 ++ [(a2, c2)], v3, x.l1, by show (v2 ++ [(a2, c2)]).length = (M.send ++ [ys]).length; simp [x.l2], x.l3, ?_⟩
  show Hold l _ w' (pOwn 24 1 h.a1 M.start.length h.c1 (V1 v1 M.start) :: pOwn 24 1 a' (M.send ++ [ys]).length c' (V1 (v2 ++ [(a2, c2)]) (M.send ++ [ys])) :: pOwn 40 3 h.a3 M.clauses.length h.c3 (V3 v3 M.clauses) :: pIntO h.a4 h.c4 M.output :: (rowsP v1 M.start ++ (rowsP (v2 ++ [(a2, c2)]) (M.send ++ [ys]) ++ clsP K v3 M.clauses)))
  rw [V1_snoc x.l2, rowsP_snoc x.l2, List.length_append]
  refine h2.perm ((List.Perm.cons _ ?_).trans (List.Perm.swap _ _ _))
  simpa using perm_mv ([pOwn 24 1 h.a1 M.start.length h.c1 (V1 v1 M.start), pOwn 40 3 h.a3 M.clauses.length h.c3 (V3 v3 M.clauses), pIntO h.a4 h.c4 M.output] ++ (rowsP v1 M.start ++ rowsP v2 M.send)) (clsP K v3 M.clauses) (pIntO a2 c2 ys)
/-- A clause is added. -/
theorem HMv.addCl {r' : Nat} (x : HMv K l r w h M v1 v2 v3) {a2 a' : Option Addr} {c2 c' : Nat} {y : Cl} (hy : (K a2 c2 y.2.1).R w ∧ ∀ b, (K a2 c2 y.2.1).a = some b → r ≤ b ∧ b < r') (hlo : r ≤ r' ∧ r' ≤ w.heap.size ∧ l ≤ r) (k : Apd w w' h.a3) (o : Own l w' 40 3 a' (M.clauses.length + 1) c' (V3 v3 M.clauses ++ [VI y.1, .slice a2 y.2.1.length c2, VI y.2.2]))
    (fr : ∀ q, a' = some q → (∃ p, h.a3 = some p ∧ q.block = p.block) ∨ w.heap.size ≤ q.block) : HM K l w'.heap.size w' { h with a3 := a', c3 := c' } (addCl M y) := by
  have h1 : Hold l r' w (K a2 c2 y.2.1 :: mParts K h M v1 v2 v3) := x.h.add hy.1 hy.2 hlo.1 hlo.2.1 hlo.2.2
  have h2 := (h1.perm (perm_out [_, _, _] _ _)).grow k o fr (by omega)
  refine ⟨v1, v2, v3 ++ [(a2, c2)], x.l1, x.l2, by show (v3 ++ [(a2, c2)]).length = (M.clauses ++ [y]).length; simp [x.l3], ?_⟩
  show Hold l _ w' (pOwn 24 1 h.a1 M.start.length h.c1 (V1 v1 M.start) :: pOwn 24 1 h.a2 M.send.length h.c2 (V1 v2 M.send) :: pOwn 40 3 a' (M.clauses ++ [y]).length c' (V3 (v3 ++ [(a2, c2)]) (M.clauses ++ [y])) :: pIntO h.a4 h.c4 M.output :: (rowsP v1 M.start ++ (rowsP v2 M.send ++ clsP K (v3 ++ [(a2, c2)]) (M.clauses ++ [y]))))
  rw [V3_snoc x.l3, clsP_snoc x.l3, List.length_append]
  refine h2.perm ((List.Perm.cons _ ?_).trans (perm_mv [_, _] _ _))
  simpa using perm_mv ([pOwn 24 1 h.a1 M.start.length h.c1 (V1 v1 M.start), pOwn 24 1 h.a2 M.send.length h.c2 (V1 v2 M.send), pIntO h.a4 h.c4 M.output] ++ (rowsP v1 M.start ++ (rowsP v2 M.send ++ clsP K v3 M.clauses))) [] (K a2 c2 y.2.1)
theorem HMv.out1 (x : HMv K l r w h M v1 v2 v3) : OwnH l r 0 0 w 24 1 h.a1 M.start.length h.c1 (V1 v1 M.start) := x.h.own
theorem HMv.out2 (x : HMv K l r w h M v1 v2 v3) : OwnH l r 0 0 w 24 1 h.a2 M.send.length h.c2 (V1 v2 M.send) := (x.h.perm (perm_out [_] _ _)).own
theorem HMv.out3 (x : HMv K l r w h M v1 v2 v3) : OwnH l r 0 0 w 40 3 h.a3 M.clauses.length h.c3 (V3 v3 M.clauses) := (x.h.perm (perm_out [_, _] _ _)).own
theorem HMv.out4 (x : HMv K l r w h M v1 v2 v3) : OwnH l r 0 0 w 3 1 h.a4 M.output.length h.c4 (M.output.map VI) := (x.h.perm (perm_out [_, _, _] _ _)).own
theorem HM.out4 (x : HM K l r w h M) : OwnH l r 0 0 w 3 1 h.a4 M.output.length h.c4 (M.output.map VI) := by obtain ⟨v1, v2, v3, y⟩ := x; exact y.out4
/-- The output was changed: appended to, or written in place. -/
theorem HM.chOut (x : HM K l r w h M) {lo : Nat} {a' : Option Addr} {c' : Nat} {o' : List Int} (k : Apd w w' h.a4) (o : Own lo w' 3 1 a' o'.length c' (o'.map VI)) (fr : ∀ q, a' = some q → (∃ p, h.a4 = some p ∧ q.block = p.block) ∨ w.heap.size ≤ q.block) (hl : l ≤ w.heap.size) : HM K l w'.heap.size w' { h with a4 := a', c4 := c' } { M with output := o' } := by
  obtain ⟨v1, v2, v3, y⟩ := x
  have h2 := (y.h.perm (perm_out [_, _, _] _ _)).grow k o fr hl
  exact ⟨v1, v2, v3, y.l1, y.l2, y.l3, h2.perm (perm_mv [_, _, _] _ _)⟩
/-- The output is a new slice. -/
theorem HM.newOut {lo r' : Nat} (x : HM K l r w h M) {a' : Option Addr} {c' : Nat} {o' : List Int} (o : OwnH lo r' 0 0 w 3 1 a' o'.length c' (o'.map VI)) (hlo : r ≤ lo ∧ r ≤ r' ∧ r' ≤ w.heap.size ∧ l ≤ r) : HM K l r' w { h with a4 := a', c4 := c' } { M with output := o' } := by
  obtain ⟨v1, v2, v3, y⟩ := x
  have h1 : Hold l r w _ := (y.h.perm (perm_out [_, _, _] _ _)).tl
  have h2 : Hold l r' w (pIntO a' c' o' :: _) := h1.add (o.1.mono (Nat.zero_le _)) (fun b hb => by obtain ⟨q, hq, rfl⟩ := map_blk hb; have := (o.1.block q hq).1; have := (o.2 q hq).1; omega) hlo.2.1 hlo.2.2.1 hlo.2.2.2
  exact ⟨v1, v2, v3, y.l1, y.l2, y.l3, h2.perm (perm_mv [_, _, _] _ _)⟩
theorem HM.nums (x : HM K l r w h M) (d s m : Int) : HM K l r w h { M with deg := d, states := s, msgs := m } := by
  obtain ⟨v1, v2, v3, y⟩ := x
  exact ⟨v1, v2, v3, y.l1, y.l2, y.l3, y.h⟩
end

/-- The part can be read. -/
def KOk (K : Option Addr → Nat → List Int → Part) : Prop := ∀ {l r : Nat} {w : World} {a : Option Addr} {c : Nat} {xs : List Int}, (K a c xs).R w → (∀ b, (K a c xs).a = some b → l ≤ b ∧ b < r) → Ints l r w a c xs
theorem kInts : KOk pInts := by
  intro l r w a c xs h hb
  by_cases e : xs = []
  · subst e; exact ⟨h.1, h.2, .inl rfl⟩
  · have h1 := hb (blkOf a) (by simp [pInts, e])
    exact Ints.mono h h1.1 (by omega)
theorem kOwn : KOk pIntO := by
  intro l r w a c xs h hb
  have h1 : Own l w 3 1 a xs.length c (xs.map VI) := own_lift h fun q hq => (hb _ (pOwn.b hq)).1
  exact (Ints.of_owned (by rw [intF_flat]; exact h1)).hi fun q hq => (hb _ (pOwn.b hq)).2
section
variable {K : Option Addr → Nat → List Int → Part} {l r : Nat} {w w' : World} {h : MA} {M : Mach} {v1 v2 v3 : List (Option Addr × Nat)}
theorem OwnH.sat9 {E : TypeId} {sz n c : Nat} {a : Option Addr} {cs : List Value} (h : OwnH l r 0 0 w E sz a n c cs) : SAt l r w a cs := h.1.sat.hi fun q hq => (h.2 q hq).1
theorem rows_is {E : TypeId} {a : Option Addr} {c : Nat} {vs : List (Option Addr × Nat)} {xss : List (List Int)} (hl : vs.length = xss.length) (ho : OwnH l r 0 0 w E 1 a xss.length c (V1 vs xss)) (hp : ∀ p ∈ rowsP vs xss, p.R w ∧ ∀ b, p.a = some b → l ≤ b ∧ b < r) : Intss l r w a c xss := by
  have hc := ho.1.cap.1
  refine ⟨vs, hl, ⟨by simp [hl]; omega, fun r hr => by obtain ⟨p, _, rfl⟩ := List.mem_map.1 hr; rfl, ?_⟩, fun i hi1 hi2 => ?_⟩
  · have e : (((vs.zip xss).map fun p => rowCells p.1 p.2)).flatten = V1 vs xss := by
      unfold V1
      generalize vs.zip xss = z
      induction z with
      | nil => rfl
      | cons x r ih => simp [rowCells, rowVal] at ih ⊢; exact ih
    rw [e]; exact ho.sat9
  · have := hp (pIntO vs[i].1 vs[i].2 xss[i]) (by unfold rowsP; exact List.mem_map.2 ⟨(vs[i], xss[i]), by rw [← List.getElem_zip (h := by simp; omega)]; exact List.getElem_mem _, rfl⟩)
    exact kOwn this.1 this.2
theorem HMv.mem (x : HMv K l r w h M v1 v2 v3) {p : Part} (hp : p ∈ rowsP v1 M.start ∨ p ∈ rowsP v2 M.send ∨ p ∈ clsP K v3 M.clauses) : p.R w ∧ ∀ b, p.a = some b → l ≤ b ∧ b < r := by
  refine x.h.2.1 p ?_
  simp only [mParts, List.mem_cons, List.mem_append]
  exact .inr (.inr (.inr (.inr hp)))
theorem HM.is (x : HM K l r w h M) (hK : KOk K) : IsMach l r w h M := by
  obtain ⟨v1, v2, v3, y⟩ := x
  refine ⟨rows_is y.l1 y.out1 fun p hp => y.mem (.inl hp), rows_is y.l2 y.out2 fun p hp => y.mem (.inr (.inl hp)), ?_, ?_⟩
  · have ho := y.out3
    have hc := ho.1.cap.1
    have hl := y.l3
    refine ⟨v3, hl, ⟨by simp [hl]; omega, fun r hr => by obtain ⟨p, _, rfl⟩ := List.mem_map.1 hr; rfl, ho.sat9⟩, fun i hi1 hi2 => ?_⟩
    have := y.mem (p := K v3[i].1 v3[i].2 M.clauses[i].2.1) (.inr (.inr (by unfold clsP; exact List.mem_map.2 ⟨(v3[i], M.clauses[i]), by rw [← List.getElem_zip (h := by simp; omega)]; exact List.getElem_mem _, rfl⟩)))
    exact hK this.1 this.2
  · have ho := y.out4
    exact (Ints.of_owned (by rw [intF_flat]; exact ho.1)).hi fun q hq => (ho.2 q hq).1
end
/-- A cell of an owned slice is written. -/
theorem own_put {l g c : Nat} {w' : World} {T : TypeId} {xs : List Int} {rest : List Value} {i : Nat} {x : Int} (hg : l ≤ g) (hc : xs.length ≤ c) (hm : c ≤ maxLen) (hl : (xs.map VI ++ rest).length = c) (hi : i < xs.length) {j : Nat} (hj : j = i) (hB : Blk w' g T ((xs.map VI ++ rest).set j (VI x))) : Own l w' T 1 (some ⟨g, 0, none⟩) (xs.set i x).length c ((xs.set i x).map VI) := by
  subst hj
  rw [List.set_append_left _ _ (by simpa using hi), ← List.map_set] at hB
  exact Own.of_blk hB hg (by rw [List.length_set]; exact hc) hm (by rw [← hl]; simp) (by simp)
def mCells (h : MA) (m : Mach) : List Value := [VI m.deg, VI m.states, VI m.msgs, .slice h.a1 m.start.length h.c1, .slice h.a2 m.send.length h.c2, .slice h.a3 m.clauses.length h.c3, .slice h.a4 m.output.length h.c4]

end Go.Proofs.YtdpdjbfjjlpfgaaGreatDoor
