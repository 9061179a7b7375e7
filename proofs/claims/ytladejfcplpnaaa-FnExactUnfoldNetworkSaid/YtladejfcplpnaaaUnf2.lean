/- Walks in the heap, and the tree that grows beside them. -/
import Derived.Test.YtladejfcplpnaaaUnf
import Derived.Test.YtladejfcplpnaaaQuot
import Derived.Test.YtladejfcplpnaaaPower
import Derived.Test.YtladejfcplpnaaaEdges
import Derived.Test.YtladejfcplpnaaaBuild
import Derived.Test.YtladejfcplpnaaaDrawV
import Derived.Test.YtladejfcplpnaaaDrawY
namespace Go.Proofs.Ytladejfcplpnaaa
open Go Go.RowKit

def c3 (w : Wk) : List Value := [VI w.x, VI w.q, VI w.t]
def c5 (w : Wk) : List Value := [VI w.x, VI w.q, VI w.t, VI w.u, VI w.b]
def wc (f : Wk → List Value) (W : List Wk) : List Value := (W.map f).flatten
theorem wc_snoc {f : Wk → List Value} {W : List Wk} {z : Wk} : wc f (W ++ [z]) = wc f W ++ f z := by simp [wc]
theorem c3_one (z : Wk) : ∀ u ∈ c3 z, u.oneCell' = true := by intro u hu; simp [c3] at hu; rcases hu with rfl | rfl | rfl <;> rfl
theorem c5_one (z : Wk) : ∀ u ∈ c5 z, u.oneCell' = true := by intro u hu; simp [c5] at hu; rcases hu with rfl | rfl | rfl | rfl | rfl <;> rfl
/-- Walks that can be read. -/
def WA (f : Wk → List Value) (sz lo hi : Nat) (w : World) (a : Option Addr) (c : Nat) (W : List Wk) : Prop := Arr lo hi w sz a c (W.map f)
section
variable {f : Wk → List Value} {sz lo hi c i : Nat} {w w' : World} {a : Option Addr} {W : List Wk} {z : Wk}
theorem WA.isSome (h : WA f sz lo hi w a c W) (hn : 0 < sz ∧ 0 < W.length) : a = some ⟨blkOf a, offOf a, none⟩ := Arr.isSome h hn.1 (by simpa using hn.2)
theorem WA.at (h : WA f sz lo hi w a c W) (e : W[i]? = some z) : ∀ j (hj : j < (f z).length), w.cell? ⟨blkOf a, offOf a + i * sz + j, none⟩ = some (f z)[j] := fun j hj =>
  Arr.cell h (r := f z) (by rw [List.getElem?_map, e]; rfl) (List.getElem?_eq_getElem hj)
theorem WA.at3 (h : WA c3 3 lo hi w a c W) (e : W[i]? = some z) : ∀ j (hj : j < [VI z.x, VI z.q, VI z.t].length), w.cell? ⟨blkOf a, offOf a + i * 3 + j, none⟩ = some [VI z.x, VI z.q, VI z.t][j] := h.at e
theorem WA.at5 (h : WA c5 5 lo hi w a c W) (e : W[i]? = some z) : ∀ j (hj : j < [VI z.x, VI z.q, VI z.t, VI z.u, VI z.b].length), w.cell? ⟨blkOf a, offOf a + i * 5 + j, none⟩ = some [VI z.x, VI z.q, VI z.t, VI z.u, VI z.b][j] := h.at e
theorem WA.atJ {i2 : Nat} (h : WA f sz lo hi w a c W) (e : W[i]? = some z) (ei : i2 = i) : ∀ j (hj : j < (f z).length), w.cell? ⟨blkOf a, offOf a + i2 * sz + j, none⟩ = some (f z)[j] := by subst ei; exact h.at e
theorem Own.wa {E : TypeId} {n : Nat} (h : Own lo w E sz a n c (wc f W)) (hf : ∀ z, (f z).length = sz) (hn : W.length = n) : WA f sz lo w.heap.size w a c W :=
  ⟨by have := h.cap.1; simpa [hn] using this, fun r hr => by obtain ⟨q, _, rfl⟩ := List.mem_map.1 hr; exact hf q, h.sat⟩
end
/-- The blocks that a network lies in. -/
def NB (vs : List (Option Addr × Nat)) (h : NA) (x : Nat) : Prop := (∃ q, h.a1 = some q ∧ q.block = x) ∨ (∃ q, h.a2 = some q ∧ q.block = x) ∨ (∃ q, h.a3 = some q ∧ q.block = x) ∨ ∃ i, ∃ _h : i < vs.length, ∃ q, vs[i].1 = some q ∧ q.block = x
section
variable {l r : Nat} {w w' w2 : World} {E F I : TypeId} {vs : List (Option Addr × Nat)} {h : NA} {A : Net}
theorem NAcc.nb (x : NAcc l r w E F I vs h A) {y : Nat} (hy : NB vs h y) : l ≤ y ∧ y < r ∧ y < w.heap.size := by
  rcases hy with ⟨q, hq, rfl⟩ | ⟨q, hq, rfl⟩ | ⟨q, hq, rfl⟩ | ⟨i, hi, q, hq, rfl⟩
  · exact ⟨(x.rows.out.block q hq).1, x.rows.otop q hq, (x.rows.out.block q hq).2⟩
  · exact ⟨(x.ids.1.block q hq).1, (x.ids.2 q hq).1, (x.ids.1.block q hq).2⟩
  · exact ⟨(x.inp.1.block q hq).1, (x.inp.2 q hq).1, (x.inp.1.block q hq).2⟩
  · have ho := x.rows.row i hi (by rw [← x.rows.len]; exact hi)
    exact ⟨(ho.block q hq).1, x.rows.top i hi q hq, (ho.block q hq).2⟩
theorem NAcc.gen (x : NAcc l r w E F I vs h A) {G : Nat → Prop} (k : Keep G w w') (hG : ∀ y, NB vs h y → G y) : NAcc l r w' E F I vs h A :=
  ⟨x.rowsK k (fun q hq => hG _ (.inl ⟨q, hq, rfl⟩)) (fun i h1 q hq => hG _ (.inr (.inr (.inr ⟨i, h1, q, hq, rfl⟩)))), ⟨x.ids.1.keep k fun q hq => hG _ (.inr (.inl ⟨q, hq, rfl⟩)), x.ids.2⟩, ⟨x.inp.1.keep k fun q hq => hG _ (.inr (.inr (.inl ⟨q, hq, rfl⟩))), x.inp.2⟩, x.s23, x.s12, x.s13, x.r2, x.r3⟩
theorem pc_splice9 {xs : List (Int × Int)} {rest : List Value} {e : Int × Int} : ∀ {y : Nat}, y < xs.length → (pairCells xs ++ rest).take (y * 2) ++ [VI e.1, VI e.2] ++ (pairCells xs ++ rest).drop (y * 2 + 2) = pairCells (xs.set y e) ++ rest := by
  induction xs with
  | nil => intro y h; simp at h
  | cons x r ih =>
    intro y h
    cases y with
    | zero => simp [pairCells_cons]
    | succ y =>
      have := ih (y := y) (by simpa using h)
      rw [show (y + 1) * 2 = y * 2 + 1 + 1 by omega, show y * 2 + 1 + 1 + 2 = y * 2 + 2 + 1 + 1 by omega]
      simp only [pairCells_cons, List.cons_append, List.take_succ_cons, List.drop_succ_cons, List.set_cons_succ]
      rw [← this]
/-- A row's own block. -/
theorem NAcc.rowBlk (x : NAcc l r w E F I vs h A) {i y : Nat} (h1 : i < vs.length) (h2 : i < A.ends.length) (hy : y < A.ends[i].length) : ∃ g rest, vs[i].1 = some ⟨g, 0, none⟩ ∧ l ≤ g ∧ g < r ∧ Blk w g E (pairCells A.ends[i] ++ rest) ∧ A.ends[i].length ≤ vs[i].2 ∧ vs[i].2 ≤ maxLen ∧ (pairCells A.ends[i] ++ rest).length = vs[i].2 * 2 := by
  obtain ⟨g, rest, ha, hg, hB, h3, h4, h5, _⟩ := (x.rows.row i h1 h2).open (by rw [pairCells_length]; omega)
  exact ⟨g, rest, ha, hg, x.rows.top i h1 _ ha, hB, h3, h4, h5⟩
/-- An end is stored in place. -/
theorem NAcc.setEnd (x : NAcc l r w E F I vs h A) {i y g : Nat} {e : Int × Int} {rest : List Value} {T : TypeId} {ds : List Value} (h1 : i < vs.length) (h2 : i < A.ends.length) (hy : y < A.ends[i].length) (ha : vs[i].1 = some ⟨g, 0, none⟩) (h3 : A.ends[i].length ≤ vs[i].2 ∧ vs[i].2 ≤ maxLen ∧ (pairCells A.ends[i] ++ rest).length = vs[i].2 * 2) (hl : l ≤ g) (S : Sto w w' g T ds)
    (hB : Blk w' g E ((pairCells A.ends[i] ++ rest).take (y * 2) ++ [VI e.1, VI e.2] ++ (pairCells A.ends[i] ++ rest).drop (y * 2 + 2))) : NAcc l r w' E F I vs h ⟨A.ends.set i (A.ends[i].set y e), A.ids, A.inputs⟩ := by
  rw [pc_splice9 hy] at hB
  have hlen : (A.ends[i].set y e).length = A.ends[i].length := List.length_set ..
  have e9 : (((vs.zip A.ends).map fun p => rowVal p.1 p.2).set i (.slice vs[i].1 (A.ends[i].set y e).length vs[i].2)) = (vs.zip A.ends).map fun p => rowVal p.1 p.2 := by
    have hi : i < ((vs.zip A.ends).map fun p => rowVal p.1 p.2).length := by simp; omega
    have := List.set_getElem_self hi
    rw [hlen]
    simpa [rowVal] using this
  have := x.replace (w2 := w') (r' := r) h1 (a' := vs[i].1) (c' := vs[i].2) (ys := A.ends[i].set y e) (S.keep.mono fun b hb => hb.2.2 _ ha)
    (by rw [e9]; exact x.rows.out.keep S.keep fun q hq => x.rows.osep i h1 q _ hq ha)
    (by rw [ha, hlen]; exact Own.of_front hB hl h3.1 h3.2.1 (by rw [List.length_append, pairCells_length, hlen]; have := h3.2.2; rw [List.length_append, pairCells_length] at this; exact this) (by rw [pairCells_length, hlen]))
    (fun q hq => .inl ⟨q, hq, rfl⟩) (Nat.le_refl _) (fun q hq => x.rows.top i h1 q hq)
  rw [show vs.set i (vs[i].1, vs[i].2) = vs from List.set_getElem_self h1] at this
  exact this
theorem NAcc.one {b1 b3 : Nat} {y : Int} (h1 : Blk w b1 F [.slice none 0 0]) (h3 : Blk w b3 I [VI y]) (hl : l ≤ b1 ∧ b1 < r ∧ l ≤ b3 ∧ b3 < r ∧ b1 ≠ b3) : NAcc l r w E F I [(none, 0)] ⟨some ⟨b1, 0, none⟩, 1, none, 0, some ⟨b3, 0, none⟩, 1⟩ ⟨[[]], [], [y]⟩ := by
  refine ⟨⟨rfl, Own.of_front (rest := []) (by simpa [rowVal] using h1) hl.1 (Nat.le_refl _) (show 1 ≤ maxLen by unfold maxLen; omega) (by simp) rfl, (fun p hp => by cases hp; exact hl.2.1), ?_, ?_, ?_, ?_⟩, OwnH.nil, ⟨Own.of_front (rest := []) (by simpa using h3) hl.2.2.1 (Nat.le_refl _) (show 1 ≤ maxLen by unfold maxLen; omega) (by simp) rfl, fun q hq => by cases hq; exact ⟨hl.2.2.2.1, .inr (Nat.zero_le _)⟩⟩, (fun _ _ hp => by cases hp), (fun _ _ _ hq => by cases hq), (fun p q hp hq => by cases hp; cases hq; exact hl.2.2.2.2), ?_, ?_⟩
  · intro i hi1 hi2
    have : i = 0 := by simp at hi1; omega
    subst this
    exact Own.nil _ _ _ _
  · intro i hi p hp
    have : i = 0 := by simp at hi; omega
    subst this
    cases hp
  · intro i j hi hj hne
    simp at hi hj; omega
  · intro i hi p q hp hq
    have : i = 0 := by simp at hi; omega
    subst this
    cases hq
  · intro i hi p q hp hq
    cases hq
  · intro i hi p q hp hq
    have : i = 0 := by simp at hi; omega
    subst this
    cases hp
end
/-- Walks and a tree that grow side by side, off the blocks p, q and g. -/
structure UT (l r s p q g : Nat) (w : World) (E F I T : TypeId) (W : List Wk) (aw : Option Addr) (cw : Nat) (vs : List (Option Addr × Nat)) (h : NA) (A : Net) : Prop where
  net : NAcc l r w E F I vs h A
  wks : Own l w T 3 aw W.length cw (wc c3 W)
  top : ∀ x, aw = some x → x.block < s
  sep : ∀ x, aw = some x → ¬ NB vs h x.block
  offN : ∀ y, NB vs h y → y ≠ p ∧ y ≠ q ∧ y ≠ g
  offW : ∀ x, aw = some x → x.block ≠ p ∧ x.block ≠ q ∧ x.block ≠ g
section
variable {l r s p q g : Nat} {w w' : World} {E F I T : TypeId} {W : List Wk} {aw : Option Addr} {cw : Nat} {vs : List (Option Addr × Nat)} {h : NA} {A : Net}
theorem UT.gen (x : UT l r s p q g w E F I T W aw cw vs h A) {G : Nat → Prop} (k : Keep G w w') (hG : ∀ y, l ≤ y → (y < r ∨ y < s) → y < w.heap.size → (y ≠ p ∧ y ≠ q ∧ y ≠ g) → G y) : UT l r s p q g w' E F I T W aw cw vs h A :=
  ⟨x.net.gen k fun y hy => hG y (x.net.nb hy).1 (.inl (x.net.nb hy).2.1) (x.net.nb hy).2.2 (x.offN y hy), x.wks.keep k fun y hy => hG _ (x.wks.block y hy).1 (.inr (x.top y hy)) (x.wks.block y hy).2 (x.offW y hy), x.top, x.sep, x.offN, x.offW⟩
theorem UT.ext (x : UT l r s p q g w E F I T W aw cw vs h A) (k : Ext w w') : UT l r s p q g w' E F I T W aw cw vs h A := x.gen k fun y _ _ h2 _ => h2
theorem UT.sto {b : Nat} {D : TypeId} {ds : List Value} (x : UT l r s p q g w E F I T W aw cw vs h A) (k : Sto w w' b D ds) (hb : b = p ∨ b = q ∨ b = g ∨ b < l ∨ (r ≤ b ∧ s ≤ b)) : UT l r s p q g w' E F I T W aw cw vs h A := x.gen k.keep fun y h1 h2 h3 h4 => by show y ≠ b; omega
theorem UT.rg {lo hi m n : Nat} (x : UT l r s p q g w E F I T W aw cw vs h A) (k : Rg lo hi m n w w') (hb : (r ≤ lo ∧ s ≤ lo) ∨ hi ≤ l) : UT l r s p q g w' E F I T W aw cw vs h A := x.gen k fun y h1 h2 h3 _ => ⟨h3, by omega⟩
theorem UT.up {r' s' : Nat} (x : UT l r s p q g w E F I T W aw cw vs h A) (hr : r ≤ r') (hs : s ≤ s') : UT l r' s' p q g w E F I T W aw cw vs h A := ⟨x.net.up hr, x.wks, fun y hy => Nat.lt_of_lt_of_le (x.top y hy) hs, x.sep, x.offN, x.offW⟩
theorem UT.re (x : UT l r s p q g w E F I T W aw cw vs h A) {q' g' : Nat} (hq : (q' = p ∨ q' = q ∨ q' = g ∨ (r ≤ q' ∧ s ≤ q')) ∧ (g' = p ∨ g' = q ∨ g' = g ∨ (r ≤ g' ∧ s ≤ g'))) : UT l r s p q' g' w E F I T W aw cw vs h A :=
  ⟨x.net, x.wks, x.top, x.sep, fun y hy => by have := (x.net.nb hy).2.1; have := x.offN y hy; omega, fun y hy => by have := x.top y hy; have := x.offW y hy; omega⟩
theorem UT.ow (x : UT l r s p q g w E F I T W aw cw vs h A) : ∀ y, aw = some y → (l ≤ y.block ∧ y.block < s) ∧ y.block ≠ p ∧ y.block ≠ q ∧ y.block ≠ g := fun y hy => ⟨⟨(x.wks.block y hy).1, x.top y hy⟩, x.offW y hy⟩
theorem UT.o1 (x : UT l r s p q g w E F I T W aw cw vs h A) : ∀ y, h.a1 = some y → (l ≤ y.block ∧ y.block < r) ∧ y.block ≠ p ∧ y.block ≠ q ∧ y.block ≠ g := fun y hy => ⟨⟨(x.net.nb (.inl ⟨y, hy, rfl⟩)).1, (x.net.nb (.inl ⟨y, hy, rfl⟩)).2.1⟩, x.offN _ (.inl ⟨y, hy, rfl⟩)⟩
theorem UT.o3 (x : UT l r s p q g w E F I T W aw cw vs h A) : ∀ y, h.a3 = some y → (l ≤ y.block ∧ y.block < r) ∧ y.block ≠ p ∧ y.block ≠ q ∧ y.block ≠ g := fun y hy => ⟨⟨(x.net.nb (.inr (.inr (.inl ⟨y, hy, rfl⟩)))).1, (x.net.nb (.inr (.inr (.inl ⟨y, hy, rfl⟩)))).2.1⟩, x.offN _ (.inr (.inr (.inl ⟨y, hy, rfl⟩)))⟩
theorem UT.wa (x : UT l r s p q g w E F I T W aw cw vs h A) : WA c3 3 l w.heap.size w aw cw W := x.wks.wa (fun _ => rfl) rfl
theorem UT.to {W' : List Wk} {B : Net} (x : UT l r s p q g w E F I T W aw cw vs h A) (e : W = W') (e2 : A = B) : UT l r s p q g w E F I T W' aw cw vs h B := by subst e e2; exact x
theorem UT.mk' {b b1 b3 bw : Nat} {y v : Int} (h1 : Blk w b1 F [.slice none 0 0]) (h3 : Blk w b3 I [VI y]) (hw : Blk w bw T (c3 (rootW v))) (hl : (l ≤ b1 ∧ b1 < r ∧ l ≤ b3 ∧ b3 < r ∧ b1 ≠ b3) ∧ l ≤ bw ∧ bw < s ∧ bw ≠ b1 ∧ bw ≠ b3 ∧ b ≠ b1 ∧ b ≠ b3 ∧ b ≠ bw) : UT l r s b b b w E F I T [rootW v] (some ⟨bw, 0, none⟩) 1 [(none, 0)] ⟨some ⟨b1, 0, none⟩, 1, none, 0, some ⟨b3, 0, none⟩, 1⟩ ⟨[[]], [], [y]⟩ := by
  have hnb : ∀ y, NB [((none : Option Addr), 0)] ⟨some ⟨b1, 0, none⟩, 1, none, 0, some ⟨b3, 0, none⟩, 1⟩ y → y = b1 ∨ y = b3 := by
    intro y hy
    rcases hy with ⟨q, hq, rfl⟩ | ⟨q, hq, rfl⟩ | ⟨q, hq, rfl⟩ | ⟨i, hi, q, hq, rfl⟩
    · cases hq; exact .inl rfl
    · cases hq
    · cases hq; exact .inr rfl
    · have : i = 0 := by simp at hi; omega
      subst this
      cases hq
  refine ⟨NAcc.one h1 h3 hl.1, Own.of_front (rest := []) (by simpa [wc] using hw) hl.2.1 (Nat.le_refl _) (by decide) (by simp [wc, c3]) (by simp [wc, c3]), fun x hx => (by cases hx; exact hl.2.2.1), fun x hx hn => ?_, fun y hy => ?_, fun x hx => ?_⟩
  · cases hx
    have := hnb _ hn
    simp only [] at this
    omega
  · have := hnb _ hy
    omega
  · cases hx
    simp only []
    omega
/-- A walk more. -/
theorem UT.pushW (x : UT l r s p q g w E F I T W aw cw vs h A) {a' : Option Addr} {c' n' : Nat} {z : Wk} (k : Apd w w' aw) (o : Own l w' T 3 a' n' c' (wc c3 W ++ [VI z.x, VI z.q, VI z.t])) (hn' : n' = W.length + 1)
    (fr : ∀ x, a' = some x → (∃ y, aw = some y ∧ x.block = y.block) ∨ w.heap.size ≤ x.block) (hS : p < w.heap.size ∧ q < w.heap.size ∧ g < w.heap.size) : UT l r w'.heap.size p q g w' E F I T (W ++ [z]) a' c' vs h A := by
  subst hn'
  refine ⟨x.net.gen k fun y hy => ⟨(x.net.nb hy).2.2, fun u hu e => x.sep u hu (by rw [← e]; exact hy)⟩, ?_, fun u hu => (o.block u hu).2, fun u hu hn => ?_, x.offN, fun u hu => ?_⟩
  · rw [List.length_append, wc_snoc]; exact o
  · rcases fr u hu with ⟨y, hy, e⟩ | hge
    · rw [e] at hn; exact x.sep y hy hn
    · have := (x.net.nb hn).2.2; omega
  · rcases fr u hu with ⟨y, hy, e⟩ | hge
    · rw [e]; exact x.offW y hy
    · omega
/-- A row more. -/
theorem UT.pushRow (x : UT l r s p q g w E F I T W aw cw vs h A) {a' : Option Addr} {c' c2 n' : Nat} {ys : List (Int × Int)} (hy : Own l w E 2 (some ⟨g, 0, none⟩) ys.length c2 (pairCells ys)) (hg : r ≤ g ∧ g ≠ p ∧ g ≠ q) (k : Apd w w' h.a1) (o : Own l w' F 1 a' n' c' ((vs.zip A.ends).map (fun p => rowVal p.1 p.2) ++ [.slice (some ⟨g, 0, none⟩) ys.length c2])) (hn' : n' = A.ends.length + 1)
    (fr : ∀ x, a' = some x → (∃ y, h.a1 = some y ∧ x.block = y.block) ∨ w.heap.size ≤ x.block) (hr : r ≤ w.heap.size ∧ s ≤ w.heap.size) (hS : p < w.heap.size ∧ q < w.heap.size) : UT l w'.heap.size s p q p w' E F I T W aw cw (vs ++ [(some ⟨g, 0, none⟩, c2)]) ⟨a', c', h.a2, h.c2, h.a3, h.c3⟩ ⟨A.ends ++ [ys], A.ids, A.inputs⟩ := by
  have hnb : ∀ y, NB (vs ++ [(some (⟨g, 0, none⟩ : Addr), c2)]) ⟨a', c', h.a2, h.c2, h.a3, h.c3⟩ y → NB vs h y ∨ w.heap.size ≤ y ∨ y = g := by
    intro y hy
    rcases hy with ⟨u, hu, rfl⟩ | ⟨u, hu, rfl⟩ | ⟨u, hu, rfl⟩ | ⟨i, hi, u, hu, rfl⟩
    · rcases fr u hu with ⟨z, hz, e⟩ | hge
      · rw [e]; exact .inl (.inl ⟨z, hz, rfl⟩)
      · exact .inr (.inl hge)
    · exact .inl (.inr (.inl ⟨u, hu, rfl⟩))
    · exact .inl (.inr (.inr (.inl ⟨u, hu, rfl⟩)))
    · by_cases hi2 : i < vs.length
      · rw [List.getElem_append_left hi2] at hu; exact .inl (.inr (.inr (.inr ⟨i, hi2, u, hu, rfl⟩)))
      · have e : i = vs.length := by simp at hi; omega
        subst e; simp at hu; subst hu; exact .inr (.inr rfl)
  refine ⟨x.net.snocRow hy (fun u hu => by cases hu; exact hg.1) k o hn' fr hr.1, x.wks.keep k fun u hu => ⟨(x.wks.block u hu).2, fun y hy e => x.sep u hu (.inl ⟨y, hy, e.symm⟩)⟩, x.top, fun u hu hn => ?_, fun y hy => ?_, fun u hu => ?_⟩
  · rcases hnb _ hn with h1 | h1 | h1
    · exact x.sep u hu h1
    · have := x.top u hu; omega
    · exact (x.offW u hu).2.2 h1
  · rcases hnb _ hy with h1 | h1 | h1
    · have := x.offN y h1; omega
    · omega
    · omega
  · have := x.offW u hu; omega
/-- An input more. -/
theorem UT.pushInp (x : UT l r s p q g w E F I T W aw cw vs h A) {a' : Option Addr} {c' n' : Nat} {y : Int} (k : Apd w w' h.a3) (o : Own l w' I 1 a' n' c' (A.inputs.map VI ++ [VI y])) (hn' : n' = A.inputs.length + 1)
    (fr : ∀ x, a' = some x → (∃ y, h.a3 = some y ∧ x.block = y.block) ∨ w.heap.size ≤ x.block) (hr : r ≤ w.heap.size ∧ s ≤ w.heap.size) (hS : p < w.heap.size ∧ q < w.heap.size ∧ g < w.heap.size) : UT l w'.heap.size s p q g w' E F I T W aw cw vs ⟨h.a1, h.c1, h.a2, h.c2, a', c'⟩ ⟨A.ends, A.ids, A.inputs ++ [y]⟩ := by
  have hnb : ∀ y, NB vs ⟨h.a1, h.c1, h.a2, h.c2, a', c'⟩ y → NB vs h y ∨ w.heap.size ≤ y := by
    intro y hy
    rcases hy with ⟨u, hu, rfl⟩ | ⟨u, hu, rfl⟩ | ⟨u, hu, rfl⟩ | ⟨i, hi, u, hu, rfl⟩
    · exact .inl (.inl ⟨u, hu, rfl⟩)
    · exact .inl (.inr (.inl ⟨u, hu, rfl⟩))
    · rcases fr u hu with ⟨z, hz, e⟩ | hge
      · rw [e]; exact .inl (.inr (.inr (.inl ⟨z, hz, rfl⟩)))
      · exact .inr hge
    · exact .inl (.inr (.inr (.inr ⟨i, hi, u, hu, rfl⟩)))
  refine ⟨x.net.snocInp k o hn' fr hr.1, x.wks.keep k fun u hu => ⟨(x.wks.block u hu).2, fun y hy e => x.sep u hu (.inr (.inr (.inl ⟨y, hy, e.symm⟩)))⟩, x.top, fun u hu hn => ?_, fun y hy => ?_, x.offW⟩
  · rcases hnb _ hn with h1 | h1
    · exact x.sep u hu h1
    · have := x.top u hu; omega
  · rcases hnb _ hy with h1 | h1
    · exact x.offN y h1
    · omega
/-- The root's row is made. -/
theorem UT.root {w1 w2 : World} {b1 n c3' : Nat} {a3 : Option Addr} {ds : List Value} {D : TypeId} {y : Int} (x : UT l r s p q g w E F I T W aw cw [(none, 0)] ⟨some ⟨b1, 0, none⟩, 1, none, 0, a3, c3'⟩ ⟨[[]], [], [y]⟩) (k : Ext w w1) {b : Nat} (o : Own l w1 E 2 (some ⟨b, 0, none⟩) n n (pairCells (List.replicate n (0, 0)))) (hg : w.heap.size ≤ b)
    (hr : r ≤ w.heap.size ∧ s ≤ w.heap.size) (hS : p < w.heap.size ∧ q < w.heap.size ∧ g < w.heap.size) (s2 : Sto w1 w2 b1 D ds) (hB : Blk w2 b1 F [.slice (some ⟨b, 0, none⟩) n n]) : UT l w2.heap.size s p q g w2 E F I T W aw cw [(some ⟨b, 0, none⟩, n)] ⟨some ⟨b1, 0, none⟩, 1, none, 0, a3, c3'⟩ ⟨[List.replicate n (0, 0)], [], [y]⟩ := by
  have hks := k.size
  have hss := s2.size
  have hb1 := x.net.nb (y := b1) (.inl ⟨_, rfl, rfl⟩)
  have hl : n = (List.replicate n ((0 : Int), (0 : Int))).length := by simp
  have hgb : b ≠ b1 := by omega
  have hnb : ∀ y, NB [(some (⟨b, 0, none⟩ : Addr), n)] ⟨some ⟨b1, 0, none⟩, 1, none, 0, a3, c3'⟩ y → NB [((none : Option Addr), 0)] ⟨some ⟨b1, 0, none⟩, 1, none, 0, a3, c3'⟩ y ∨ y = b := by
    intro y hy
    rcases hy with ⟨u, hu, rfl⟩ | ⟨u, hu, rfl⟩ | ⟨u, hu, rfl⟩ | ⟨i, hi, u, hu, rfl⟩
    · exact .inl (.inl ⟨u, hu, rfl⟩)
    · exact .inl (.inr (.inl ⟨u, hu, rfl⟩))
    · exact .inl (.inr (.inr (.inl ⟨u, hu, rfl⟩)))
    · have : i = 0 := by simp at hi; omega
      subst this
      cases hu; exact .inr rfl
  have K : Keep (fun y => y < w.heap.size ∧ y ≠ b1) w w2 := Keep.trans (k.mono fun y hy => hy.1) (s2.keep.mono fun y hy => hy.2)
  have hn := x.net.replace (w2 := w2) (r' := w2.heap.size) (i := 0) (by simp) (a' := some ⟨b, 0, none⟩) (c' := n) (ys := List.replicate n (0, 0))
    (K.mono fun y hy => ⟨by have := hy.1; omega, hy.2.1 _ rfl⟩)
    (by rw [← hl]; exact Own.of_front (rest := []) (by simpa [rowVal] using hB) hb1.1 (Nat.le_refl _) (show 1 ≤ maxLen by unfold maxLen; omega) (by simp) rfl)
    (by rw [← hl]; exact o.keep s2.keep fun u hu => by cases hu; exact hgb)
    (fun u hu => by cases hu; exact .inr (by show r ≤ b; omega)) (by omega) (fun u hu => by cases hu; have := (o.block _ rfl).2; show b < _; simp only [] at this; omega)
  refine ⟨hn, x.wks.keep K fun u hu => ⟨(x.wks.block u hu).2, fun e => x.sep u hu (.inl ⟨_, rfl, e.symm⟩)⟩, x.top, fun u hu hn2 => ?_, fun y hy => ?_, x.offW⟩
  · rcases hnb _ hn2 with h1 | h1
    · exact x.sep u hu h1
    · have := x.top u hu; omega
  · rcases hnb _ hy with h1 | h1
    · exact x.offN y h1
    · omega
/-- An end is stored in place. -/
theorem UT.setEnd (x : UT l r s p q g w E F I T W aw cw vs h A) {i y b : Nat} {e : Int × Int} {rest : List Value} {D : TypeId} {ds : List Value} (h1 : i < vs.length) (h2 : i < A.ends.length) (hy : y < A.ends[i].length) (ha : vs[i].1 = some ⟨b, 0, none⟩) (h3 : A.ends[i].length ≤ vs[i].2 ∧ vs[i].2 ≤ maxLen ∧ (pairCells A.ends[i] ++ rest).length = vs[i].2 * 2) (hl : l ≤ b) (S' : Sto w w' b D ds)
    (hB : Blk w' b E ((pairCells A.ends[i] ++ rest).take (y * 2) ++ [VI e.1, VI e.2] ++ (pairCells A.ends[i] ++ rest).drop (y * 2 + 2))) : UT l r s p q g w' E F I T W aw cw vs h ⟨A.ends.set i (A.ends[i].set y e), A.ids, A.inputs⟩ :=
  ⟨x.net.setEnd h1 h2 hy ha h3 hl S' hB, x.wks.keep S'.keep fun u hu e => x.sep u hu (.inr (.inr (.inr ⟨i, h1, _, ha, e.symm⟩))), x.top, x.sep, x.offN, x.offW⟩
end

end Go.Proofs.Ytladejfcplpnaaa
