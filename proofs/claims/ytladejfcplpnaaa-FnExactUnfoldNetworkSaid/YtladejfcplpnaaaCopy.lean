/- The copy of a network that impl.copyNetwork makes. -/
import Derived.Test.YtladejfcplpnaaaDist
import Derived.Test.YtladejfcplpnaaaRowsP
import Derived.Test.YtladejfcplpnaaaNets
import Derived.Test.YtladejfcplpnaaaDrawT
import Derived.Test.YtladejfcplpnaaaSort
namespace Go.Proofs.Ytladejfcplpnaaa
open Go Go.RowKit

theorem Pairs.nil_of_none {lo hi : Nat} {w : World} {a : Option Addr} {c : Nat} {xs : List (Int × Int)} (h : Pairs lo hi w a c xs) (ha : a.isNone = true) : xs = [] := by
  rcases Nat.eq_zero_or_pos xs.length with h0 | h0
  · exact List.eq_nil_of_length_eq_zero h0
  · have := h.isSome h0
    rw [this] at ha; cases ha
theorem own_zadd2 {lo : Nat} {w : World} {E : TypeId} {sz : Nat} {a : Option Addr} {n c : Nat} {ds : List Value} (h : Own lo w E sz a (0 + n) c (([] : List Value) ++ ds)) : Own lo w E sz a n c ds := by rw [Nat.zero_add] at h; exact h
/-- The rows that are copied so far. -/
def cpyN (xs : Ends) (i : Nat) : Ends := xs.take i ++ List.replicate (xs.length - i) []
theorem cpyN_len {xs : Ends} {i : Nat} (h : i ≤ xs.length) : (cpyN xs i).length = xs.length := by simp [cpyN]; omega
theorem cpyN_zero (xs : Ends) : cpyN xs 0 = List.replicate xs.length [] := by simp [cpyN]
theorem cpyN_full {xs : Ends} {i : Nat} (h : xs.length ≤ i) : cpyN xs i = xs := by simp [cpyN, List.take_of_length_le h, show xs.length - i = 0 by omega]
theorem cpyN_set {xs : Ends} {i : Nat} (h : i < xs.length) : (cpyN xs i).set i xs[i] = cpyN xs (i + 1) := by
  have e : xs.length - i = (xs.length - (i + 1)) + 1 := by omega
  unfold cpyN
  have e2 : i - (xs.take i).length = 0 := by simp; omega
  rw [e, List.replicate_succ, List.set_append_right _ _ (by simp; omega), e2, List.set_cons_zero, List.take_succ_eq_append_getElem h, List.append_assoc]
  rfl
section
variable {α : Type} {f : α → List Value} {sz lo hi : Nat} {w w' : World} {E : TypeId} {vs : List (Option Addr × Nat)} {xss : List (List α)}
theorem OwnAll.sto {b : Nat} {T : TypeId} {ds : List Value} (h : OwnAll f sz lo hi w E vs xss) (k : Sto w w' b T ds) (hb : b < lo ∨ hi ≤ b) : OwnAll f sz lo hi w' E vs xss := h.keep k.keep fun q h1 h2 => by show q ≠ b; omega
theorem OwnAll.kx {b : Nat} (h : OwnAll f sz lo hi w E vs xss) (k : KX b w w') (hb : (b < lo ∨ hi ≤ b) ∧ hi ≤ w.heap.size) : OwnAll f sz lo hi w' E vs xss := h.keep k fun q h1 h2 => ⟨by omega, by omega⟩
/-- A row is taken anew. -/
theorem OwnAll.put (h : OwnAll f sz lo hi w E vs xss) {i l2 : Nat} (hi1 : i < vs.length) {a' : Option Addr} {c' : Nat} {ys : List α} (o : Own l2 w E sz a' ys.length c' (ys.flatMap f)) (hl : lo ≤ l2) (hh : hi ≤ l2) (hw : hi ≤ w.heap.size) : OwnAll f sz lo w.heap.size w E (vs.set i (a', c')) (xss.set i ys) := by
  refine ⟨by simp [h.len], fun j h1 h2 => ?_, fun j h1 p hp => ?_, fun j1 j2 h1 h2 hne p q hp hq => ?_⟩
  · simp only [List.length_set] at h1 h2
    by_cases hj : j = i
    · subst hj; simp only [List.getElem_set_self]; exact o.mono hl
    · simp only [List.getElem_set_ne (Ne.symm hj)]; exact h.own j h1 h2
  · simp only [List.length_set] at h1
    by_cases hj : j = i
    · subst hj; simp only [List.getElem_set_self] at hp; exact (o.block p hp).2
    · simp only [List.getElem_set_ne (Ne.symm hj)] at hp
      have := h.top j h1 p hp; omega
  · simp only [List.length_set] at h1 h2
    by_cases hj1 : j1 = i
    · subst hj1
      simp only [List.getElem_set_self] at hp
      simp only [List.getElem_set_ne hne] at hq
      have := h.top j2 (by simpa using h2) q hq; have := (o.block p hp).1; omega
    · simp only [List.getElem_set_ne (Ne.symm hj1)] at hp
      by_cases hj2 : j2 = i
      · subst hj2
        simp only [List.getElem_set_self] at hq
        have := h.top j1 (by simpa using h1) p hp; have := (o.block q hq).1; omega
      · simp only [List.getElem_set_ne (Ne.symm hj2)] at hq
        exact h.sep j1 j2 h1 h2 hne p q hp hq
end
/-- An owned slice that is not empty, as a block. -/
theorem Own.open {lo n c sz : Nat} {w : World} {E : TypeId} {a : Option Addr} {cs : List Value} (h : Own lo w E sz a n c cs) (h0 : 0 < cs.length) : ∃ g rest, a = some ⟨g, 0, none⟩ ∧ lo ≤ g ∧ Blk w g E (cs ++ rest) ∧ n ≤ c ∧ c ≤ maxLen ∧ (cs ++ rest).length = c * sz ∧ cs.length = n * sz := by
  obtain ⟨hl, h⟩ := h
  rcases h with ⟨hv, hn⟩ | ⟨g, cap, cur, hv, hb, hg, h1, h2, h3, h4⟩
  · subst hn; rw [hl, Nat.zero_mul] at h0; omega
  · cases hv
    have e : cs ++ cur.toList.drop (n * sz) = cur.toList := by rw [← h4]; exact List.take_append_drop _ _
    refine ⟨g, cur.toList.drop (n * sz), rfl, hb, ?_, h1, h2, ?_, hl⟩
    · rw [e]; exact hg
    · rw [e]; simpa using h3
/-- A block's front, as an owned slice. -/
theorem Own.of_front {lo n c sz g : Nat} {w : World} {E : TypeId} {cs rest : List Value} (hB : Blk w g E (cs ++ rest)) (h1 : lo ≤ g) (h2 : n ≤ c) (h3 : c ≤ maxLen) (h4 : (cs ++ rest).length = c * sz) (h5 : cs.length = n * sz) : Own lo w E sz (some ⟨g, 0, none⟩) n c cs :=
  ⟨h5, .inr ⟨g, c, (cs ++ rest).toArray, rfl, h1, hB, h2, h3, by rw [List.size_toArray]; omega, by rw [← h5]; exact List.take_left⟩⟩
theorem pairCells_set1 {xs : List (Int × Int)} {k : Nat} {y : Int} (h : k < xs.length) : (pairCells xs).set (k * 2) (VI y) = pairCells (xs.set k (y, (xs[k]).2)) := by
  induction xs generalizing k with
  | nil => simp at h
  | cons x r ih =>
    obtain ⟨p, q⟩ := x
    cases k with
    | zero => rfl
    | succ k =>
      have h' : k < r.length := by simpa using h
      have := ih h'
      show (VI p :: VI q :: pairCells r).set ((k + 1) * 2) (VI y) = VI p :: VI q :: pairCells (r.set k (y, (r[k]).2))
      rw [show (k + 1) * 2 = k * 2 + 1 + 1 by omega, List.set_cons_succ, List.set_cons_succ, this]
theorem rowv_nils (n : Nat) : ((List.replicate n ((none : Option Addr), 0)).zip (List.replicate n ([] : List (Int × Int)))).map (fun p => rowVal p.1 p.2) = List.replicate n (.slice none 0 0) := by simp [List.zip_replicate, rowVal]
theorem rowv_set {vs : List (Option Addr × Nat)} {xss : Ends} {i j : Nat} {a' : Option Addr} {c' : Nat} {ys : List (Int × Int)} (e : j = i) : (((vs.zip xss).map fun p => rowVal p.1 p.2).set j (.slice a' ys.length c')) = ((vs.set i (a', c')).zip (xss.set i ys)).map fun p => rowVal p.1 p.2 := by
  subst e; rw [zip_set, List.map_set]; rfl
theorem OwnH.off {l r l' r' b n c sz : Nat} {w : World} {E : TypeId} {a : Option Addr} {cs : List Value} (h : OwnH l r 0 0 w E sz a n c cs) (hl : l' ≤ l) (hr : r ≤ r') (hb : b < l ∨ r ≤ b) : OwnH l' r' b (b + 1) w E sz a n c cs := ⟨h.1.mono hl, fun x hx => by have := h.2 x hx; have := (h.1.block x hx).1; omega⟩
/-- A network that has just been copied: the slice of its rows in block b, its numbers behind that, its rows from block p on. -/
structure CopyAt (l r b p : Nat) (w : World) (E F I : TypeId) (vs : List (Option Addr × Nat)) (h : NA) (A : Net) : Prop where
  pos : l ≤ b ∧ b < p ∧ p ≤ r
  adr : h.a1 = some ⟨b, 0, none⟩ ∧ h.c1 = A.ends.length
  out : Blk w b F ((vs.zip A.ends).map fun p => rowVal p.1 p.2)
  rows : OwnAll pairF 2 p r w E vs A.ends
  nums : ∃ m, l ≤ m ∧ m ≤ p ∧ OwnH l m b (b + 1) w I 1 h.a2 A.ids.length h.c2 (A.ids.map VI) ∧ OwnH m p b (b + 1) w I 1 h.a3 A.inputs.length h.c3 (A.inputs.map VI)
section
variable {l r b p : Nat} {w w' : World} {E F I : TypeId} {vs : List (Option Addr × Nat)} {h : NA} {A : Net}
theorem CopyAt.keep {G : Nat → Prop} (c : CopyAt l r b p w E F I vs h A) (k : Keep G w w') (hG : ∀ x, l ≤ x → x < r → G x) : CopyAt l r b p w' E F I vs h A := by
  have hp := c.pos
  obtain ⟨m, h1, h2, h3, h4⟩ := c.nums
  exact ⟨hp, c.adr, c.out.keep k (hG _ hp.1 (by omega)), c.rows.keep k fun x h5 h6 => hG x (by omega) h6, m, h1, h2, h3.keep k fun x h5 h6 => hG x h5 (by omega), h4.keep k fun x h5 h6 => hG x (by omega) (by omega)⟩
theorem CopyAt.ext (c : CopyAt l r b p w E F I vs h A) (k : Ext w w') : CopyAt l r b p w' E F I vs h A := by
  obtain ⟨m, h1, h2, h3, h4⟩ := c.nums
  exact ⟨c.pos, c.adr, c.out.ext k, c.rows.ext k, m, h1, h2, h3.ext k, h4.ext k⟩
theorem CopyAt.lo {x : Nat} (c : CopyAt l r b p w E F I vs h A) (k : Lo x w w') (hb : r ≤ x) : CopyAt l r b p w' E F I vs h A := c.keep k.2 fun y _ h2 => Nat.lt_of_lt_of_le h2 hb
theorem CopyAt.sto {g : Nat} {T : TypeId} {ds : List Value} (c : CopyAt l r b p w E F I vs h A) (k : Sto w w' g T ds) (hb : g < l ∨ r ≤ g) : CopyAt l r b p w' E F I vs h A := c.keep k.keep fun y h1 h2 => by show y ≠ g; omega
end
/-- A row's contents are changed in place. -/
theorem OwnAll.inpl {α : Type} {f : α → List Value} {sz lo hi : Nat} {w w' : World} {E T : TypeId} {vs : List (Option Addr × Nat)} {xss : List (List α)} (h : OwnAll f sz lo hi w E vs xss) {i g : Nat} (hi1 : i < vs.length) {ds : List Value} {ys : List α} (k : Sto w w' g T ds) (hv : vs[i].1 = some ⟨g, 0, none⟩) (o : Own lo w' E sz vs[i].1 ys.length vs[i].2 (ys.flatMap f)) : OwnAll f sz lo hi w' E vs (xss.set i ys) := by
  refine ⟨by simp [h.len], fun j h1 h2 => ?_, h.top, h.sep⟩
  by_cases hj : i = j
  · subst hj; simp only [List.getElem_set_self]; exact o
  · simp only [List.getElem_set_ne hj]
    exact (h.own j h1 (by simpa using h2)).keep k.keep fun q hq => h.sep j i h1 hi1 (Ne.symm hj) q _ hq hv

/-- The rows that are shifted so far: whole rows before i, of row i the first k ends. -/
def shfR (d : Int) (r : List (Int × Int)) (k : Nat) : List (Int × Int) := (r.take k).map (fun e => (e.1 + d, e.2)) ++ r.drop k
theorem shfR_len (d : Int) (r : List (Int × Int)) (k : Nat) : (shfR d r k).length = r.length := by simp [shfR]; omega
theorem shfR_zero (d : Int) (r : List (Int × Int)) : shfR d r 0 = r := by simp [shfR]
theorem shfR_full {d : Int} {r : List (Int × Int)} {k : Nat} (h : r.length ≤ k) : shfR d r k = r.map fun e => (e.1 + d, e.2) := by simp [shfR, List.take_of_length_le h, List.drop_eq_nil_of_le h]
theorem shfR_at {d : Int} {r : List (Int × Int)} {k : Nat} (h : k < r.length) {h2 : k < (shfR d r k).length} : (shfR d r k)[k] = r[k] := by
  simp only [shfR]
  rw [List.getElem_append_right (by simp; omega)]
  simp [Nat.min_eq_left (Nat.le_of_lt h)]
theorem shfR_set {d : Int} {r : List (Int × Int)} {k : Nat} (h : k < r.length) : (shfR d r k).set k (r[k].1 + d, r[k].2) = shfR d r (k + 1) := by
  have e : r.drop k = r[k] :: r.drop (k + 1) := (List.drop_eq_getElem_cons h)
  unfold shfR
  rw [e, List.set_append_right _ _ (by simp; omega), List.take_succ_eq_append_getElem h, List.map_append, List.append_assoc]
  simp [Nat.min_eq_left (Nat.le_of_lt h)]
  rw [e, List.set_cons_zero]
def shfN (d : Int) (xs : Ends) (i : Nat) : Ends := (xs.take i).map (fun r => shfR d r r.length) ++ xs.drop i

end Go.Proofs.Ytladejfcplpnaaa
