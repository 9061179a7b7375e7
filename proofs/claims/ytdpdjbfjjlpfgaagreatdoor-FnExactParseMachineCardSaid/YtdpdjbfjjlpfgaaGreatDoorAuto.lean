/- Short words for the walks: reading what is owned, stores into a block of numbers, a queue (a slice cut in front and appended to behind), results that may be absent. No condition. -/
import Derived.Test.YtdpdjbfjjlpfgaaGreatDoorOrows
import Derived.ArgAppend
namespace Go.Proofs.YtdpdjbfjjlpfgaaGreatDoor
open Go Go.RowKit

section
variable {lo : Nat} {w : World} {E : TypeId} {a : Option Addr} {n c : Nat}
theorem own_i {xs : List Int} (h : Own lo w E 1 a n c (xs.map VI)) : Ints lo w.heap.size w a c xs := h.ints.1
theorem own_n {xs : List Int} (h : Own lo w E 1 a n c (xs.map VI)) : n = xs.length := h.ints.2
theorem own_snocI {xs : List Int} {x : Int} (h : Own lo w E 1 a n c (xs.map VI ++ [VI x])) : Own lo w E 1 a n c ((xs ++ [x]).map VI) := by rw [List.map_append]; exact h
theorem own_appI {xs ys : List Int} (h : Own lo w E 1 a n c (xs.map VI ++ ys.map VI)) : Own lo w E 1 a n c ((xs ++ ys).map VI) := by rw [List.map_append]; exact h
theorem own_snocP {ps : List (Int × Int)} {x y : Int} (h : Own lo w E 2 a n c (pairCells ps ++ [VI x, VI y])) : Own lo w E 2 a n c (pairCells (ps ++ [(x, y)])) := by rw [pairCells_append]; exact h
theorem own_p {ps : List (Int × Int)} (h : Own lo w E 2 a n c (pairCells ps)) : Pairs lo w.heap.size w a c ps := Pairs.mk (by have := h.cap; rw [pairCells_length] at this; omega) h.sat
theorem own_np {ps : List (Int × Int)} (h : Own lo w E 2 a n c (pairCells ps)) : n = ps.length := by have := h.cap.2; rw [pairCells_length] at this; omega
end
theorem icell {w : World} {g i j : Nat} {T : TypeId} {xs : List Int} (h : Blk w g T (xs.map VI)) (hi : i < xs.length) (hj : j = i) : w.cell? ⟨g, j, none⟩ = some (VI xs[i]) := by subst hj; exact h.cell (by simp [hi])
theorem iset {w : World} {g j i : Nat} {T : TypeId} {xs : List Int} {x : Int} (hj : j = i) (h : Blk w g T ((xs.map VI).set j (VI x))) : Blk w g T ((xs.set i x).map VI) := by subst hj; rw [List.map_set]; exact h
theorem bset {w : World} {g j i : Nat} {T : TypeId} {bs : List Bool} {x : Bool} (hj : j = i) (h : Blk w g T ((bs.map VB).set j (VB x))) : Blk w g T ((bs.set i x).map VB) := by subst hj; rw [List.map_set]; exact h
theorem bcell {w : World} {g i j : Nat} {T : TypeId} {bs : List Bool} (h : Blk w g T (bs.map VB)) (hi : i < bs.length) (hj : j = i) : w.cell? ⟨g, j, none⟩ = some (VB bs[i]) := by subst hj; exact h.cell (by simp [hi])
theorem Own.sto' {lo : Nat} {w w' : World} {E : TypeId} {sz : Nat} {a : Option Addr} {n c : Nat} {cs : List Value} {b : Nat} {T : TypeId} {ds : List Value} (h : Own lo w E sz a n c cs) (k : Sto w w' b T ds) (hb : ∀ q, a = some q → q.block ≠ b) : Own lo w' E sz a n c cs :=
  h.keep k.keep fun q hq => hb q hq

theorem setCells_sto {b : Nat} {T : TypeId} : ∀ (vs : List Value) (o : Nat) {w : World} {cs : List Value}, Blk w b T cs → o + vs.length ≤ cs.length → Sto w (w.setCells b o vs) b T (cs.take o ++ vs ++ cs.drop (o + vs.length))
  | [], o, w, cs, h, _ => by
    refine ⟨Keep.refl _ _, rfl, ?_, ⟨cs, h, by simp⟩⟩
    simpa [World.setCells] using h
  | v :: r, o, w, cs, h, hl => by
    have h1 := setCell_sto h o v
    simp only [List.length_cons] at hl
    have h2 := setCells_sto (b := b) (T := T) r (o + 1) h1.blk (by simp; omega)
    have e : ((cs.set o v).take (o + 1) ++ r ++ (cs.set o v).drop (o + 1 + r.length)) = cs.take o ++ (v :: r) ++ cs.drop (o + (v :: r).length) := by
      rw [List.take_set, List.drop_set_of_lt (by omega)]
      rw [List.take_succ_eq_append_getElem (by omega : o < cs.length), List.set_append_right _ _ (by simp; omega)]
      have : o - (List.take o cs).length = 0 := by simp; omega
      rw [this]
      simp [Nat.add_assoc, Nat.add_comm 1]
    rw [e] at h2
    exact ⟨Keep.trans h1.keep h2.keep, h2.size.trans h1.size, h2.blk, ⟨cs, h, by simp; omega⟩⟩

/-- All blocks are kept but those from lo on below hi; of these, those from p on below q are kept too. -/
def Rg (lo hi p q : Nat) (w w' : World) : Prop := Keep (fun k => k < w.heap.size ∧ (k < lo ∨ hi ≤ k ∨ (p ≤ k ∧ k < q))) w w'
/-- An owned slice whose block lies below hi, and not from p on below q. -/
def OwnH (lo hi p q : Nat) (w : World) (E : TypeId) (sz : Nat) (a : Option Addr) (n c : Nat) (cs : List Value) : Prop := Own lo w E sz a n c cs ∧ ∀ x, a = some x → x.block < hi ∧ (x.block < p ∨ q ≤ x.block)
section
variable {lo hi p q l r : Nat} {w0 w w' : World} {a : Option Addr} {c : Nat}
theorem Rg.size (h : Rg lo hi p q w w') : w.heap.size ≤ w'.heap.size := Keep.size h
theorem Rg.refl : Rg lo hi p q w w := Keep.refl _ _
theorem Rg.of_apd (k : Apd w w' a) (hb : ∀ x, a = some x → lo ≤ x.block ∧ x.block < hi ∧ (x.block < p ∨ q ≤ x.block)) : Rg lo hi p q w w' := k.mono fun i hi => ⟨hi.1, fun x hx => by have := hb x hx; have := hi.2; omega⟩
theorem Rg.trans (h : Rg lo hi p q w0 w) (k : Ext w w') : Rg lo hi p q w0 w' := Keep.trans h (k.mono fun i hi => Nat.lt_of_lt_of_le hi.1 h.size)
theorem Rg.rg {p' q' : Nat} (h : Rg lo hi p q w0 w) (k : Rg l r p' q' w w') (hb : w0.heap.size ≤ l ∨ (lo ≤ l ∧ (r ≤ hi ∨ w0.heap.size ≤ hi) ∧ (q ≤ p ∨ (p' ≤ p ∧ q ≤ q') ∨ q ≤ l ∨ r ≤ p))) : Rg lo hi p q w0 w' := Keep.trans h (k.mono fun i hi => ⟨Nat.lt_of_lt_of_le hi.1 h.size, by have := hi.1; have := hi.2; omega⟩)
theorem Rg.sto {g : Nat} {T : TypeId} {ds : List Value} (h : Rg lo hi p q w0 w) (k : Sto w w' g T ds) (hb : (lo ≤ g ∧ g < hi ∧ (g < p ∨ q ≤ g)) ∨ w0.heap.size ≤ g) : Rg lo hi p q w0 w' := Keep.trans h (k.keep.mono fun i hi => by show i ≠ g; have := hi.1; have := hi.2; omega)
theorem Ext.rg (h : Ext w0 w) (k : Rg lo hi p q w w') (hb : w0.heap.size ≤ lo) : Ext w0 w' := Keep.trans h (k.mono fun i hi => ⟨Nat.lt_of_lt_of_le hi h.size, .inl (Nat.lt_of_lt_of_le hi hb)⟩)
theorem KX.rg {g : Nat} (h : KX g w0 w) (k : Rg lo hi p q w w') (hb : w0.heap.size ≤ lo ∨ (lo = g ∧ hi = g + 1)) : KX g w0 w' := Keep.trans h (k.mono fun i hi => ⟨Nat.lt_of_lt_of_le hi.1 h.size, by have := hi.1; have := hi.2; omega⟩)
theorem Blk.rg {g : Nat} {T : TypeId} {cs : List Value} (h : Blk w g T cs) (k : Rg lo hi p q w w') (hb : g < lo ∨ hi ≤ g ∨ (p ≤ g ∧ g < q)) : Blk w' g T cs := h.keep k ⟨h.lt, hb⟩
theorem SAt.rg {cs : List Value} (h : SAt l r w a cs) (k : Rg lo hi p q w w') (hb : (r ≤ lo ∨ hi ≤ l ∨ (p ≤ l ∧ r ≤ q)) ∧ r ≤ w.heap.size) : SAt l r w' a cs := h.keep k fun b _ _ => ⟨by omega, by omega⟩
theorem Ints.rg {xs : List Int} (h : Ints l r w a c xs) (k : Rg lo hi p q w w') (hb : (r ≤ lo ∨ hi ≤ l ∨ (p ≤ l ∧ r ≤ q)) ∧ r ≤ w.heap.size) : Ints l r w' a c xs := h.keep k fun b _ _ => ⟨by omega, by omega⟩
theorem Pairs.rg {xs : List (Int × Int)} (h : Pairs l r w a c xs) (k : Rg lo hi p q w w') (hb : (r ≤ lo ∨ hi ≤ l ∨ (p ≤ l ∧ r ≤ q)) ∧ r ≤ w.heap.size) : Pairs l r w' a c xs := h.keep k fun b _ _ => ⟨by omega, by omega⟩
theorem FInts.rg {xs : List Int} (h : FInts l r w a c xs) (k : Rg lo hi p q w w') (hb : (r ≤ lo ∨ hi ≤ l ∨ (p ≤ l ∧ r ≤ q)) ∧ r ≤ w.heap.size) : FInts l r w' a c xs := FArr.keep h k fun b _ _ => ⟨by omega, by omega⟩
theorem FPairs.rg {xs : List (Int × Int)} (h : FPairs l r w a c xs) (k : Rg lo hi p q w w') (hb : (r ≤ lo ∨ hi ≤ l ∨ (p ≤ l ∧ r ≤ q)) ∧ r ≤ w.heap.size) : FPairs l r w' a c xs := FArr.keep h k fun b _ _ => ⟨by omega, by omega⟩
theorem Nest.rg {α β : Type} {sz : Nat} {cells : Option Addr × Nat → β → List Value} {inner : β → List α} {R : Nat → Nat → World → Option Addr → Nat → List α → Prop} [Car R] {xs : List β} (h : Nest sz cells inner R l r w a c xs) (k : Rg lo hi p q w w') (hb : (r ≤ lo ∨ hi ≤ l ∨ (p ≤ l ∧ r ≤ q)) ∧ r ≤ w.heap.size) : Nest sz cells inner R l r w' a c xs := h.keep k fun b _ _ => ⟨by omega, by omega⟩
theorem FNest.rg {α β : Type} {sz : Nat} {cells : Option Addr × Nat → β → List Value} {inner : β → List α} {R : Nat → Nat → World → Option Addr → Nat → List α → Prop} [Car R] {xs : List β} (h : FNest sz cells inner R l r w a c xs) (k : Rg lo hi p q w w') (hb : (r ≤ lo ∨ hi ≤ l ∨ (p ≤ l ∧ r ≤ q)) ∧ r ≤ w.heap.size) : FNest sz cells inner R l r w' a c xs := by
  obtain ⟨vs, b', hl, ha, h1, hF, h2, h3⟩ := h
  exact ⟨vs, b', hl, ha, h1, hF.keep k fun x _ _ => ⟨by omega, by omega⟩, h2, fun i hi h' => Car.keep (h3 i hi h') k fun x _ _ => ⟨by omega, by omega⟩⟩
theorem ORows.rg {α : Type} {f : α → List Value} {sz g : Nat} {E : TypeId} {xss : List (List α)} (h : ORows f sz l r w E g xss) (k : Rg lo hi p q w w') (hb : (r ≤ lo ∨ hi ≤ l ∨ (p ≤ l ∧ r ≤ q)) ∧ r ≤ w.heap.size) : ORows f sz l r w' E g xss := h.keep k fun x _ _ => ⟨by omega, by omega⟩
theorem Own.rg {E : TypeId} {sz n : Nat} {cs : List Value} (h : Own l w E sz a n c cs) (k : Rg lo hi p q w w') (hb : hi ≤ l) : Own l w' E sz a n c cs := h.keep k fun x hx => ⟨(h.block x hx).2, by have := (h.block x hx).1; omega⟩
variable {E : TypeId} {sz n : Nat} {cs : List Value} {p' q' : Nat}
theorem OwnH.ext (h : OwnH l r p q w E sz a n c cs) (k : Ext w w') : OwnH l r p q w' E sz a n c cs := ⟨h.1.ext k, h.2⟩
theorem OwnH.rg (h : OwnH l r p' q' w E sz a n c cs) (k : Rg lo hi p q w w') (hb : r ≤ lo ∨ hi ≤ l ∨ (p ≤ l ∧ r ≤ q) ∨ (p' ≤ lo ∧ hi ≤ q') ∨ (p ≤ l ∧ p' ≤ q ∧ hi ≤ q')) : OwnH l r p' q' w' E sz a n c cs := ⟨h.1.keep k fun x hx => ⟨(h.1.block x hx).2, by have := (h.1.block x hx).1; have := h.2 x hx; omega⟩, h.2⟩
theorem OwnH.keep {F : Nat → Prop} (h : OwnH l r p q w E sz a n c cs) (k : Keep F w w') (hF : ∀ b, l ≤ b → b < r → F b) : OwnH l r p q w' E sz a n c cs := ⟨h.1.keep k fun x hx => hF _ (h.1.block x hx).1 (h.2 x hx).1, h.2⟩
theorem OwnH.sto {g : Nat} {T : TypeId} {ds : List Value} (h : OwnH l r p q w E sz a n c cs) (k : Sto w w' g T ds) (hb : g < l ∨ r ≤ g ∨ (p ≤ g ∧ g < q)) : OwnH l r p q w' E sz a n c cs := ⟨h.1.keep k.keep fun x hx => by have := (h.1.block x hx).1; have := h.2 x hx; show x.block ≠ g; omega, h.2⟩
theorem OwnH.kx {g : Nat} (h : OwnH l r p q w E sz a n c cs) (k : KX g w w') (hb : (g < l ∨ r ≤ g ∨ (p ≤ g ∧ g < q)) ∧ r ≤ w.heap.size) : OwnH l r p q w' E sz a n c cs := ⟨h.1.keep k fun x hx => ⟨(h.1.block x hx).2, by have := (h.1.block x hx).1; have := h.2 x hx; omega⟩, h.2⟩
theorem OwnH.up {l' r' : Nat} (h : OwnH l r p q w E sz a n c cs) (hl : l' ≤ l) (hr : r ≤ r') : OwnH l' r' p q w E sz a n c cs := ⟨h.1.mono hl, fun x hx => ⟨Nat.lt_of_lt_of_le (h.2 x hx).1 hr, (h.2 x hx).2⟩⟩
theorem OwnH.nil : OwnH l r p q w E sz none 0 0 [] := ⟨Own.nil _ _ _ _, fun x hx => by cases hx⟩
theorem OwnH.hole (h : OwnH l r p q w E sz a n c cs) (hr : r ≤ p' ∨ q' ≤ l ∨ q' ≤ p') : OwnH l r p' q' w E sz a n c cs := ⟨h.1, fun x hx => ⟨(h.2 x hx).1, by have := (h.1.block x hx).1; have := (h.2 x hx).1; omega⟩⟩
theorem Own.h (h : Own l w E sz a n c cs) : OwnH l w.heap.size 0 0 w E sz a n c cs := ⟨h, fun x hx => ⟨(h.block x hx).2, .inr (Nat.zero_le _)⟩⟩
theorem OwnH.cap (h : OwnH l r p q w E sz a n c cs) : n ≤ c ∧ cs.length = n * sz := h.1.cap
end
theorem ownt_i {lo hi p q : Nat} {w : World} {E : TypeId} {a : Option Addr} {n c : Nat} {xs : List Int} (h : OwnH lo hi p q w E 1 a n c (xs.map VI)) : Ints lo w.heap.size w a c xs := own_i h.1
theorem ownt_is {lo hi p q : Nat} {w : World} {E : TypeId} {a : Option Addr} {n c : Nat} {xs : List Int} (h : OwnH lo hi p q w E 1 a n c (xs.map VI)) : Ints lo hi w a c xs := by
  have h1 := own_i h.1
  refine Ints.mk h1.cap ?_
  rcases h1.sat with h2 | ⟨b, off, ha, h3, h4, h5⟩
  · exact .inl h2
  · exact .inr ⟨b, off, ha, h3, (h.2 _ ha).1, h5⟩
theorem ownt_p {lo hi p q : Nat} {w : World} {E : TypeId} {a : Option Addr} {n c : Nat} {xs : List (Int × Int)} (h : OwnH lo hi p q w E 2 a n c (pairCells xs)) : Pairs lo w.heap.size w a c xs := own_p h.1
theorem ownt_n {lo hi p q : Nat} {w : World} {E : TypeId} {a : Option Addr} {n c : Nat} {xs : List Int} (h : OwnH lo hi p q w E 1 a n c (xs.map VI)) : n = xs.length := own_n h.1
theorem ownt_snocI {lo hi p q : Nat} {w : World} {E : TypeId} {a : Option Addr} {n c : Nat} {xs : List Int} {x : Int} (h : OwnH lo hi p q w E 1 a n c (xs.map VI ++ [VI x])) : OwnH lo hi p q w E 1 a n c ((xs ++ [x]).map VI) := ⟨own_snocI h.1, h.2⟩
theorem ownt_appI {lo hi p q : Nat} {w : World} {E : TypeId} {a : Option Addr} {n c : Nat} {xs ys : List Int} (h : OwnH lo hi p q w E 1 a n c (xs.map VI ++ ys.map VI)) : OwnH lo hi p q w E 1 a n c ((xs ++ ys).map VI) := ⟨own_appI h.1, h.2⟩
theorem ownt_snocP {lo hi p q : Nat} {w : World} {E : TypeId} {a : Option Addr} {n c : Nat} {ps : List (Int × Int)} {x y : Int} (h : OwnH lo hi p q w E 2 a n c (pairCells ps ++ [VI x, VI y])) : OwnH lo hi p q w E 2 a n c (pairCells (ps ++ [(x, y)])) := ⟨own_snocP h.1, h.2⟩
theorem ownt_to {lo hi p q : Nat} {w : World} {E : TypeId} {a : Option Addr} {n n' c : Nat} {xs ys : List Int} (h : OwnH lo hi p q w E 1 a n c (xs.map VI)) (e : xs = ys) (hn : n = n') : OwnH lo hi p q w E 1 a n' c (ys.map VI) := by subst e hn; exact h
theorem ownt_toP {lo hi p q : Nat} {w : World} {E : TypeId} {a : Option Addr} {n n' c : Nat} {xs ys : List (Int × Int)} (h : OwnH lo hi p q w E 2 a n c (pairCells xs)) (e : xs = ys) (hn : n = n') : OwnH lo hi p q w E 2 a n' c (pairCells ys) := by subst e hn; exact h
/-- append(s, ys...), with where it lies. -/
theorem ev_appendT {P : Program} {L : Env} {ty T E : TypeId} {x y : Operand} {u : Value} {w : World} {lo hi p q sz by' : Nat} {a a2 : Option Addr} {n c m c2 : Nat} {cs ds : List Value} {lo2 hi2 : Nat} (ht : P.underlying T = some (.slice E)) (he : elem? P E = some (u, sz, by')) (hu : u.cells.size = sz) (hsz : 0 < sz)
    (hx : ev L x = some (.slice a n c)) (hy : ev L y = some (.slice a2 m c2)) (ho : OwnH lo hi p q w E sz a n c cs) (hs : SAt lo2 hi2 w a2 ds) (hl : ds.length = m * sz) (h1 : ∀ u ∈ ds, u.oneCell' = true)
    (hn : (n + m) * by' ≤ 140737488355328) (hm : n + m ≤ maxLen) (hlo : lo ≤ w.heap.size ∧ q ≤ w.heap.size) :
    EvM P L (.call ⟨.builtin .append, #[x, y], #[T, T]⟩) ty w (fun r w' => ∃ a' c', r = .slice a' (n + m) c' ∧ OwnH lo w'.heap.size p q w' E sz a' (n + m) c' (cs ++ ds) ∧ Rg lo hi p q w w' ∧ ∀ x, a' = some x → (∃ z, a = some z ∧ x.block = z.block) ∨ w.heap.size ≤ x.block) := by
  refine (ev_append ht he hu hsz hx hy ho.1 hs hl h1 hn hm hlo.1).mono ?_
  rintro v w' ⟨a', c', rfl, hO, hK, hQ⟩
  refine ⟨a', c', rfl, ⟨hO, fun x hx => ⟨(hO.block x hx).2, ?_⟩⟩, Rg.of_apd hK (fun x hx => ⟨(ho.1.block x hx).1, (ho.2 x hx).1, (ho.2 x hx).2⟩), hQ⟩
  rcases hQ x hx with ⟨z, hz, e⟩ | hge
  · have := (ho.2 z hz).2; omega
  · right; omega

/-- A queue: the slice's block is the call's own; in front of the slice may lie what was taken. -/
def OwnQ (lo hi : Nat) (w : World) (E : TypeId) (sz : Nat) (a : Option Addr) (n c : Nat) (cs : List Value) : Prop :=
  cs.length = n * sz ∧ n ≤ c ∧ c ≤ maxLen ∧ (∀ q, a = some q → lo ≤ q.block ∧ q.block < hi ∧ q.block < w.heap.size) ∧
  (c = 0 ∨ ∃ g pre rest, a = some ⟨g, pre.length, none⟩ ∧ Blk w g E (pre ++ cs ++ rest) ∧ n * sz + rest.length = c * sz)
section
variable {P : Program} {L : Env} {ty T E : TypeId} {x y : Operand} {u : Value} {lo hi : Nat} {w w' : World} {sz : Nat} {a : Option Addr} {n c : Nat} {cs : List Value}
theorem Own.q (h : Own lo w E sz a n c cs) : OwnQ lo w.heap.size w E sz a n c cs := by
  have hb : ∀ q, a = some q → lo ≤ q.block ∧ q.block < w.heap.size ∧ q.block < w.heap.size := fun q hq => ⟨(h.block q hq).1, (h.block q hq).2, (h.block q hq).2⟩
  have hc := h.cap
  obtain ⟨hl, h⟩ := h
  rcases h with ⟨hv, hn⟩ | ⟨g, cap, cur, hv, hb1, hg, h1, h2, h3, h4⟩
  · cases hv
    exact ⟨hl, by omega, by decide, hb, .inl rfl⟩
  · cases hv
    refine ⟨hl, h1, h2, hb, .inr ⟨g, [], cur.toList.drop (n * sz), rfl, ?_, ?_⟩⟩
    · unfold Blk
      rw [List.nil_append, ← h4, List.take_append_drop]
      exact hg
    · simp [h3]
      have := Nat.mul_le_mul_right sz h1
      omega
theorem OwnQ.cap (h : OwnQ lo hi w E sz a n c cs) : n ≤ c ∧ cs.length = n * sz := ⟨h.2.1, h.1⟩
theorem OwnQ.block (h : OwnQ lo hi w E sz a n c cs) : ∀ q, a = some q → lo ≤ q.block ∧ q.block < w.heap.size := fun q hq => ⟨(h.2.2.2.1 q hq).1, (h.2.2.2.1 q hq).2.2⟩
theorem OwnQ.block' (h : OwnQ lo hi w E sz a n c cs) : ∀ q, a = some q → lo ≤ q.block ∧ q.block < hi := fun q hq => ⟨(h.2.2.2.1 q hq).1, (h.2.2.2.1 q hq).2.1⟩
theorem OwnQ.sat (h : OwnQ lo hi w E sz a n c cs) : SAt lo w.heap.size w a cs := by
  obtain ⟨hl, h1, h2, hb, h⟩ := h
  rcases h with h | ⟨g, pre, rest, ha, hB, hr⟩
  · left
    have : n = 0 := by omega
    subst this
    exact List.eq_nil_of_length_eq_zero (by simpa using hl)
  · right
    have hq := hb _ ha
    refine ⟨g, pre.length, ha, hq.1, hq.2.2, fun i hi => ?_⟩
    apply hB.cell
    rw [List.append_assoc, List.getElem?_append_right (by omega), List.getElem?_append_left (by omega)]
    simp [hi]
theorem OwnQ.keep {F : Nat → Prop} (h : OwnQ lo hi w E sz a n c cs) (k : Keep F w w') (hF : ∀ q, a = some q → F q.block) : OwnQ lo hi w' E sz a n c cs := by
  obtain ⟨hl, h1, h2, hb, h⟩ := h
  refine ⟨hl, h1, h2, fun q hq => ⟨(hb q hq).1, (hb q hq).2.1, Nat.lt_of_lt_of_le (hb q hq).2.2 k.size⟩, ?_⟩
  rcases h with h | ⟨g, pre, rest, ha, hB, hr⟩
  · exact .inl h
  · exact .inr ⟨g, pre, rest, ha, hB.keep k (hF _ ha), hr⟩
theorem OwnQ.ext (h : OwnQ lo hi w E sz a n c cs) (k : Ext w w') : OwnQ lo hi w' E sz a n c cs := h.keep k fun q hq => (h.block q hq).2
theorem OwnQ.sto {b : Nat} {T : TypeId} {ds : List Value} (h : OwnQ lo hi w E sz a n c cs) (k : Sto w w' b T ds) (hb : b < lo ∨ hi ≤ b) : OwnQ lo hi w' E sz a n c cs := h.keep k.keep fun q hq => by have := h.block' q hq; show q.block ≠ b; omega
theorem OwnQ.kx {b : Nat} (h : OwnQ lo hi w E sz a n c cs) (k : KX b w w') (hb : b < lo ∨ hi ≤ b) : OwnQ lo hi w' E sz a n c cs := h.keep k fun q hq => ⟨(h.block q hq).2, by have := h.block' q hq; omega⟩
theorem OwnQ.rg {l r p' q' : Nat} (h : OwnQ lo hi w E sz a n c cs) (k : Rg l r p' q' w w') (hb : hi ≤ l ∨ r ≤ lo ∨ (p' ≤ lo ∧ hi ≤ q')) : OwnQ lo hi w' E sz a n c cs := h.keep k fun q hq => ⟨(h.block q hq).2, by have := h.block' q hq; omega⟩
theorem OwnQ.up {lo' hi' : Nat} (h : OwnQ lo hi w E sz a n c cs) (hl : lo' ≤ lo) (hh : hi ≤ hi') : OwnQ lo' hi' w E sz a n c cs := ⟨h.1, h.2.1, h.2.2.1, fun q hq => ⟨Nat.le_trans hl (h.block q hq).1, Nat.lt_of_lt_of_le (h.block' q hq).2 hh, (h.block q hq).2⟩, h.2.2.2.2⟩
/-- q[k:]. -/
theorem OwnQ.drop (h : OwnQ lo hi w E sz a n c cs) {k : Nat} (hk : k ≤ n) : OwnQ lo hi w E sz (if c = k then a else a.map (·.add (k * sz))) (n - k) (c - k) (cs.drop (k * sz)) := by
  obtain ⟨hl, h1, h2, hb, h⟩ := h
  have hle : k * sz ≤ n * sz := Nat.mul_le_mul_right _ hk
  refine ⟨by rw [List.length_drop, hl, Nat.sub_mul], by omega, by omega, fun q hq => ?_, ?_⟩
  · split at hq
    · exact hb q hq
    · obtain ⟨p, hp, rfl⟩ := Option.map_eq_some_iff.1 hq
      have := hb p hp
      unfold Addr.add
      split <;> simpa using this
  · rcases h with h | ⟨g, pre, rest, ha, hB, hr⟩
    · left; omega
    · by_cases hck : c = k
      · left; omega
      · right
        refine ⟨g, pre ++ cs.take (k * sz), rest, ?_, ?_, ?_⟩
        · rw [if_neg hck, ha]
          simp only [Option.map_some, Addr.add_lit, List.length_append, List.length_take, hl]
          rw [Nat.min_eq_left hle]
        · have : pre ++ cs.take (k * sz) ++ cs.drop (k * sz) ++ rest = pre ++ cs ++ rest := by rw [List.append_assoc pre, List.take_append_drop]
          rw [this]; exact hB
        · rw [Nat.sub_mul, Nat.sub_mul]
          have := Nat.mul_le_mul_right sz h1
          omega
/-- append(q, ys...), of something. -/
theorem ev_appendQ {by' : Nat} {a2 : Option Addr} {m c2 : Nat} {ds : List Value} {lo2 hi2 : Nat} (ht : P.underlying T = some (.slice E)) (he : elem? P E = some (u, sz, by')) (hu : u.cells.size = sz) (hsz : 0 < sz)
    (hx : ev L x = some (.slice a n c)) (hy : ev L y = some (.slice a2 m c2)) (ho : OwnQ lo hi w E sz a n c cs) (hs : SAt lo2 hi2 w a2 ds) (hl : ds.length = m * sz) (h1 : ∀ u ∈ ds, u.oneCell' = true) (hm0 : 0 < m)
    (hn : (n + m) * by' ≤ 140737488355328) (hm : n + m ≤ maxLen) (hlo : lo ≤ w.heap.size) :
    EvM P L (.call ⟨.builtin .append, #[x, y], #[T, T]⟩) ty w (fun r w' => ∃ a' c', r = .slice a' (n + m) c' ∧ OwnQ lo w'.heap.size w' E sz a' (n + m) c' (cs ++ ds) ∧ Rg lo hi 0 0 w w' ∧ ∀ q, a' = some q → (∃ p, a = some p ∧ q.block = p.block) ∨ w.heap.size ≤ q.block) := by
  intro ρ hρ d p f g
  obtain ⟨i, hi, hz, hsi, hby⟩ := elem_parts he
  have hd0 : 0 < ds.length := by rw [hl]; exact Nat.mul_pos hm0 hsz
  obtain ⟨b2, off2, rfl, _, _, hc⟩ := hs.at hd0
  have hnew : ∀ j u', ds[j]? = some u' → w.cell? (Addr.add ⟨b2, off2, none⟩ j) = some u' := fun j u' hj => by
    have hjl : j < ds.length := by
      rcases Nat.lt_or_ge j ds.length with h | h
      · exact h
      · rw [List.getElem?_eq_none h] at hj; cases hj
    rw [Addr.add_lit, hc j hjl]
    rw [List.getElem?_eq_getElem hjl] at hj
    exact hj
  have ho' := ho
  obtain ⟨hcl, hnc, hcm, hb, hcase⟩ := ho
  simp only [execOp, resolve, invoke, builtin, hρ x _ hx, hρ y _ hy, Sem.run_bind, Sem.run_pure, Result.andThen_ok, List.map_toArray, List.map_cons, List.map_nil]
  by_cases hroom : n + m ≤ c
  · rcases hcase with h0 | ⟨g', pre, rest, rfl, hB, hr⟩
    · omega
    have hfit : (n + m) * sz ≤ c * sz := Nat.mul_le_mul_right _ hroom
    rw [Nat.add_mul] at hfit
    have hdr : ds.length ≤ rest.length := by omega
    have hrun := run_append_room_cells (P := P) w T ty E i ht hi g' pre.length n c ⟨b2, off2, none⟩ m c2 ds (by rw [hsi]; exact hl) hnew h1 hroom
      (fun j hj => by
        have : (pre ++ cs ++ rest)[pre.length + n * i.size + j]? = some ((pre ++ cs ++ rest)[pre.length + n * i.size + j]'(by simp only [List.length_append]; rw [hsi]; omega)) := List.getElem?_eq_getElem _
        rw [hB.cell this]; rfl)
      (fun j hj => hB.frozen _)
    rw [hrun]
    simp only [Result.andThen_ok, OpOk]
    have hst := setCells_sto (b := g') (T := E) ds (pre.length + n * sz) hB (by simp only [List.length_append]; omega)
    rw [hsi]
    have e : (pre ++ cs ++ rest).take (pre.length + n * sz) ++ ds ++ (pre ++ cs ++ rest).drop (pre.length + n * sz + ds.length) = pre ++ (cs ++ ds) ++ rest.drop ds.length := by
      have hpl : pre.length + n * sz = (pre ++ cs).length := by simp [hcl]
      rw [hpl, List.take_left, List.drop_append]
      simp
    rw [e] at hst
    refine ⟨_, _, rfl, ⟨by rw [List.length_append, hcl, hl, Nat.add_mul], by omega, hcm, fun q hq => ?_, .inr ⟨g', pre, rest.drop ds.length, rfl, hst.blk, ?_⟩⟩, hst.keep.mono fun k hk => (by have := hb _ rfl; have := hk.2; simp only at *; omega), fun q hq => .inl ⟨_, rfl, by cases hq; rfl⟩⟩
    · have := hb q hq
      rw [hst.size]; exact ⟨this.1, this.2.2, this.2.2⟩
    · rw [List.length_drop, Nat.add_mul]; omega
  · cases a with
    | none =>
      have h0 : c = 0 := by
        rcases hcase with h0 | ⟨g', pre, rest, h0, _⟩
        · exact h0
        · cases h0
      have hn0 : n = 0 := by omega
      subst hn0 h0
      have hcs : cs = [] := List.eq_nil_of_length_eq_zero (by simpa using hcl)
      subst hcs
      obtain ⟨v', w', hrun, hown, hgr, _⟩ := run_append_own (P := P) w lo T ty E i u sz by' ht hi hz hsi hby hu hsz (.slice none 0 0) 0 [] (Own.nil lo w E sz) ⟨b2, off2, none⟩ m c2 ds hl hnew h1 (by omega) hn hlo
      have hfr := fun a' n' c' hv => append_fresh (a' := a') (n' := n') (c' := c') ht hi hz hsi hby (Own.nil lo w E sz) ⟨b2, off2, none⟩ hl hnew h1 hn hm hrun hv
      rw [hrun]
      simp only [Result.andThen_ok, OpOk]
      rcases hown.2 with ⟨hv, h0⟩ | ⟨g', cap, cur, hv, _⟩
      · omega
      · subst hv
        exact ⟨_, _, rfl, Own.q hown, (Keep.of_grown hgr).mono fun k hk => ⟨hk.1, by simp [Value.ownBlock]⟩, fun q hq => hfr _ _ _ rfl q hq⟩
    | some q0 =>
      have holds : ∀ j u', cs[j]? = some u' → w.cell? (q0.add j) = some u' := fun j u' hj => by
        have hjl : j < cs.length := by
          rcases Nat.lt_or_ge j cs.length with h | h
          · exact h
          · rw [List.getElem?_eq_none h] at hj; cases hj
        obtain ⟨b3, off3, e3, _, _, hc3⟩ := ho'.sat.at (by omega)
        cases e3
        rw [Addr.add_lit, hc3 j hjl]
        rw [List.getElem?_eq_getElem hjl] at hj
        exact hj
      obtain ⟨v', w', hrun, hown, hgr⟩ := run_append_arg_grows (P := P) w T ty E i u sz by' ht hi hz hsi hby hu hsz q0 n c cs hcl holds ⟨b2, off2, none⟩ m c2 ds hl hnew (by omega) hm hn
      rw [hrun]
      simp only [Result.andThen_ok, OpOk]
      rcases hown.2 with ⟨hv, h0⟩ | ⟨g', cap, cur, hv, hge, _⟩
      · omega
      · subst hv
        refine ⟨_, _, rfl, Own.q (Own.mono hown hlo), (Keep.of_grown hgr).mono fun k hk => ⟨hk.1, by simp⟩, fun q hq => .inr ?_⟩
        cases hq
        exact hge
end
theorem ownq_i {lo hi : Nat} {w : World} {E : TypeId} {a : Option Addr} {n c : Nat} {xs : List Int} (h : OwnQ lo hi w E 1 a n c (xs.map VI)) : Ints lo w.heap.size w a c xs := Ints.mk (by have := h.cap; simp at this; omega) h.sat
theorem ownq_n {lo hi : Nat} {w : World} {E : TypeId} {a : Option Addr} {n c : Nat} {xs : List Int} (h : OwnQ lo hi w E 1 a n c (xs.map VI)) : n = xs.length := by have := h.cap.2; simp at this; omega
theorem ownq_snocI {lo hi : Nat} {w : World} {E : TypeId} {a : Option Addr} {n c : Nat} {xs : List Int} {x : Int} (h : OwnQ lo hi w E 1 a n c (xs.map VI ++ [VI x])) : OwnQ lo hi w E 1 a n c ((xs ++ [x]).map VI) := by rw [List.map_append]; exact h
theorem ownq_drop1 {lo hi : Nat} {w : World} {E : TypeId} {a : Option Addr} {n c : Nat} {xs : List Int} {k : Int} (h : OwnQ lo hi w E 1 a n c (xs.map VI)) (hk : k = 1) (hn : 0 < n) : OwnQ lo hi w E 1 (if c = k.toNat then a else a.map (·.add (k.toNat * 1))) (n - k.toNat) (c - k.toNat) (xs.tail.map VI) := by
  subst hk
  have := h.drop (k := 1) (by omega)
  simpa using this

theorem own_of_blk {lo b n : Nat} {w : World} {E : TypeId} {cs : List Value} (h : Blk w b E cs) (hb : lo ≤ b) (hl : cs.length = n * 1) (hm : n ≤ 1048576) : Own lo w E 1 (some ⟨b, 0, none⟩) n n cs :=
  ⟨hl, .inr ⟨b, n, cs.toArray, rfl, hb, h, Nat.le_refl _, by unfold maxLen; omega, by simpa using hl, by simp [← hl]⟩⟩
theorem own_take {lo : Nat} {w : World} {E : TypeId} {a : Option Addr} {n c i : Nat} {xs : List Int} {x : Int} (h : Own lo w E 1 a n c ((xs.take i ++ [x]).map VI)) (hi : i < xs.length) (hx : xs[i] = x) : Own lo w E 1 a n c ((xs.take (i + 1)).map VI) := by
  rw [List.take_succ_eq_append_getElem hi, hx]; exact h
theorem ownt_take {lo hi p q : Nat} {w : World} {E : TypeId} {a : Option Addr} {n c i : Nat} {xs : List Int} {x : Int} (h : OwnH lo hi p q w E 1 a n c ((xs.take i ++ [x]).map VI)) (hi' : i < xs.length) (hx : xs[i] = x) : OwnH lo hi p q w E 1 a n c ((xs.take (i + 1)).map VI) := ⟨own_take h.1 hi' hx, h.2⟩
/-- k times x, then zeros. -/
def rep (x : Int) (n k : Nat) : List Int := List.replicate k x ++ List.replicate (n - k) 0
theorem rep_len {x : Int} {n k : Nat} (h : k ≤ n) : (rep x n k).length = n := by simp [rep]; omega
theorem rep_full {x : Int} {n k : Nat} (h : n ≤ k) : rep x n k = List.replicate k x := by simp [rep, Nat.sub_eq_zero_of_le h]
theorem rep_copy {x : Int} {n k m o : Nat} {w : World} {b : Nat} {T : TypeId} (h : Blk w b T (((rep x n k).map VI).take o ++ (List.replicate m x).map VI ++ ((rep x n k).map VI).drop (o + ((List.replicate m x).map VI).length))) (ho : o = k) (hm : k + m ≤ n) : Blk w b T ((rep x n (k + m)).map VI) := by
  subst ho
  have : (rep x n (o + m)).map VI = ((rep x n o).map VI).take o ++ (List.replicate m x).map VI ++ ((rep x n o).map VI).drop (o + ((List.replicate m x).map VI).length) := by
    simp only [rep, ← List.map_take, ← List.map_drop, ← List.map_append, List.length_map, List.length_replicate]
    congr 1
    rw [List.take_left' (by simp), List.drop_append]
    simp only [List.length_replicate, List.drop_replicate, Nat.add_sub_cancel_left, ← List.append_assoc]
    rw [show o - (o + m) = 0 by omega, List.replicate_zero, List.append_nil]
    rw [List.replicate_append_replicate, show n - o - m = n - (o + m) by omega]
  rw [this]; exact h
theorem rep_src {x : Int} {n k m : Nat} {w : World} {b : Nat} {T : TypeId} (h : Blk w b T ((rep x n k).map VI)) (hm : m ≤ k) : SAt b (b + 1) w (some ⟨b, 0, none⟩) ((List.replicate m x).map VI) := by
  refine SAt.of_blk (T := T) (ds := (List.replicate (k - m) x ++ List.replicate (n - k) 0).map VI) ?_
  rw [← List.map_append, ← List.append_assoc, List.replicate_append_replicate, Nat.add_sub_cancel' hm]
  exact h
theorem rep_zero {x : Int} {n : Nat} {w : World} {b : Nat} {T : TypeId} (h : Blk w b T (List.replicate n (VI 0))) : Blk w b T ((rep x n 0).map VI) := by simpa [rep] using h
theorem rep_set {x : Int} {n k j : Nat} {w : World} {b : Nat} {T : TypeId} (h : Blk w b T (((rep x n k).map VI).set j (VI x))) (hj : j = k) (hk : k < n) : Blk w b T ((rep x n (k + 1)).map VI) := by
  subst hj
  have : (rep x n (j + 1)).map VI = ((rep x n j).map VI).set j (VI x) := by
    rw [← List.map_set]
    congr 1
    unfold rep
    rw [List.set_append_right _ _ (by simp), List.length_replicate, Nat.sub_self, show n - j = (n - (j + 1)) + 1 by omega, List.replicate_succ (n := n - (j + 1)), List.set_cons_zero, List.replicate_succ' (n := j), List.append_assoc]
    rfl
  rw [this]; exact h

/-! ### Results that may be absent -/
open Classical in
noncomputable def opt {α : Type} (V : Prop) (x : α) : Option α := if V then some x else none
theorem opt_yes {α : Type} {V : Prop} {x : α} (h : V) : opt V x = some x := if_pos h
theorem opt_no {α : Type} {V : Prop} {x : α} (h : ¬ V) : opt V x = none := if_neg h
/-- The result r, and whether there is one. z: what is handed back without. -/
def RV {α : Type} (z : α) (o : Option α) (r : α) (q : Bool) : Prop := r = o.getD z ∧ q = o.isSome
section
variable {α : Type} {z x r r' : α} {o : Option α} {q q' : Bool} {V : Prop}
theorem RV.det1 (h : RV z o r q) (k : RV z o r' q') : r = r' := h.1.trans k.1.symm
theorem RV.det2 (h : RV z o r q) (k : RV z o r' q') : q = q' := h.2.trans k.2.symm
theorem RV.no (h : ¬ V) : RV z (opt V x) z false := by rw [opt_no h]; exact ⟨rfl, rfl⟩
theorem RV.yes (h : V) (e : r = x) : RV z (opt V x) r true := by rw [opt_yes h]; exact ⟨e, rfl⟩
theorem RV.none (h : o = .none) : RV z o z false := by subst h; exact ⟨rfl, rfl⟩
theorem RV.some (h : o = .some r) : RV z o r true := by subst h; exact ⟨rfl, rfl⟩
end
theorem tfX (h : true = false) : False := by cases h
theorem iff_vb {b c : Bool} {P : Prop} (h : b = true ↔ P) (k : c = true ↔ P) : b = c := by cases b <;> cases c <;> simp_all
end Go.Proofs.YtdpdjbfjjlpfgaaGreatDoor
