/- Unfolding a network: the walks without turning back, and the tree of them. -/
import Derived.Test.YtladejfcplpnaaaFib
import Derived.Test.YtladejfcplpnaaaNetAcc
import Derived.Test.YtladejfcplpnaaaDist
import Derived.Test.YtladejfcplpnaaaBfs
namespace Go.Proofs.Ytladejfcplpnaaa
open Go Go.RowKit

/-- A walk: where it stands, the port it came by, how long it is, and the walk and the port it goes on from. -/
structure Wk where
  x : Int
  q : Int
  t : Int
  u : Int
  b : Int
def rootW (v : Int) : Wk := ⟨v, -1, 0, -1, 0⟩
def rowE (ends : Ends) (x : Int) : List (Int × Int) := ends.getD x.toNat []
def kidW (ends : Ends) (i : Nat) (w : Wk) (k : Nat) : Wk := ⟨((rowE ends w.x).getD k (0, 0)).1, ((rowE ends w.x).getD k (0, 0)).2, w.t + 1, (i : Int), (k : Int)⟩
def uK (ends : Ends) (i : Nat) (w : Wk) (W : List Wk) : Nat → List Wk
  | 0 => W
  | k + 1 => if (k : Int) = w.q then uK ends i w W k else uK ends i w W k ++ [kidW ends i w k]
/-- The walks, once i of them are gone on from. -/
def uN (ends : Ends) (v d : Int) : Nat → List Wk
  | 0 => [rootW v]
  | i + 1 => match (uN ends v d i)[i]? with
    | some w => if w.t = d then uN ends v d i else uK ends i w (uN ends v d i) (rowE ends w.x).length
    | none => uN ends v d i
section
variable {ends : Ends} {v d : Int} {i k : Nat} {w : Wk} {W : List Wk}
theorem uK_zero : uK ends i w W 0 = W := rfl
theorem uK_skip (h : (k : Int) = w.q) : uK ends i w W (k + 1) = uK ends i w W k := if_pos h
theorem uK_new (h : ¬ (k : Int) = w.q) : uK ends i w W (k + 1) = uK ends i w W k ++ [kidW ends i w k] := if_neg h
theorem uK_step : uK ends i w W k <+: uK ends i w W (k + 1) := by
  by_cases h : (k : Int) = w.q
  · rw [uK_skip h]; exact List.prefix_refl _
  · rw [uK_new h]; exact List.prefix_append ..
theorem uK_le {k' : Nat} (h : k ≤ k') : uK ends i w W k <+: uK ends i w W k' := by
  induction k' with
  | zero => rw [show k = 0 by omega]; exact List.prefix_refl _
  | succ k' ih =>
    by_cases e : k = k' + 1
    · rw [e]; exact List.prefix_refl _
    · exact (ih (by omega)).trans uK_step
theorem uK_len : (uK ends i w W k).length ≤ W.length + k := by
  induction k with
  | zero => exact Nat.le_refl _
  | succ k ih =>
    by_cases h : (k : Int) = w.q
    · rw [uK_skip h]; omega
    · rw [uK_new h, List.length_append]; simp only [List.length_singleton]; omega
theorem uN_zero : uN ends v d 0 = [rootW v] := rfl
theorem uN_none (h : (uN ends v d i).length ≤ i) : uN ends v d (i + 1) = uN ends v d i := by rw [uN, List.getElem?_eq_none h]
theorem uN_leaf (h : (uN ends v d i)[i]? = some w) (ht : w.t = d) : uN ends v d (i + 1) = uN ends v d i := by rw [uN, h]; exact if_pos ht
theorem uN_some (h : (uN ends v d i)[i]? = some w) (ht : ¬ w.t = d) : uN ends v d (i + 1) = uK ends i w (uN ends v d i) (rowE ends w.x).length := by rw [uN, h]; exact if_neg ht
theorem uN_step : uN ends v d i <+: uN ends v d (i + 1) := by
  by_cases h : (uN ends v d i).length ≤ i
  · rw [uN_none h]; exact List.prefix_refl _
  · obtain ⟨w, hw⟩ : ∃ w, (uN ends v d i)[i]? = some w := ⟨_, List.getElem?_eq_getElem (by omega)⟩
    by_cases ht : w.t = d
    · rw [uN_leaf hw ht]; exact List.prefix_refl _
    · rw [uN_some hw ht]; exact uK_le (Nat.zero_le _)
theorem uN_le {j : Nat} (h : i ≤ j) : uN ends v d i <+: uN ends v d j := by
  induction j with
  | zero => rw [show i = 0 by omega]; exact List.prefix_refl _
  | succ j ih =>
    by_cases e : i = j + 1
    · rw [e]; exact List.prefix_refl _
    · exact (ih (by omega)).trans uN_step
theorem uN_fix (h : (uN ends v d i).length ≤ i) (j : Nat) : uN ends v d (i + j) = uN ends v d i := by
  induction j with
  | zero => rfl
  | succ j ih => rw [← Nat.add_assoc, uN_none (by rw [ih]; omega), ih]
theorem uN_done (h : (uN ends v d i).length ≤ i) (hi : i ≤ 41) : uN ends v d 41 = uN ends v d i := by
  have := uN_fix h (41 - i)
  rwa [show i + (41 - i) = 41 by omega] at this
theorem uN_big (h : 40 < (uN ends v d i).length) (hi : i ≤ 41) : 40 < (uN ends v d 41).length := Nat.lt_of_lt_of_le h (uN_le hi).length_le
theorem uK_big (hw : (uN ends v d i)[i]? = some w) (ht : ¬ w.t = d) (hk : k < (rowE ends w.x).length) (hq : ¬ (k : Int) = w.q) (h : (uK ends i w (uN ends v d i) k).length = 40) (hi : i < 41) : 40 < (uN ends v d 41).length := by
  refine uN_big (i := i + 1) ?_ (by omega)
  rw [uN_some hw ht]
  have h1 := (uK_le (ends := ends) (i := i) (w := w) (W := uN ends v d i) (k := k + 1) (k' := (rowE ends w.x).length) (by omega)).length_le
  rw [uK_new hq, List.length_append] at h1
  simp only [List.length_singleton] at h1
  omega
theorem uK_at {c : Nat} (h : c < W.length) : (uK ends i w W k)[c]? = W[c]? := by
  obtain ⟨r, hr⟩ := uK_le (ends := ends) (i := i) (w := w) (W := W) (Nat.zero_le k)
  rw [← hr]; exact List.getElem?_append_left h
end
theorem snoc_get {α : Type} {W : List α} {x w : α} {c : Nat} (h : (W ++ [x])[c]? = some w) : W[c]? = some w ∨ (c = W.length ∧ x = w) := by
  rcases Nat.lt_trichotomy c W.length with h1 | h1 | h1
  · rw [List.getElem?_append_left h1] at h; exact .inl h
  · subst h1; simp at h; exact .inr ⟨rfl, h⟩
  · rw [List.getElem?_eq_none (by simp; omega)] at h; cases h
theorem snoc_old {α : Type} {W : List α} {x w : α} {c : Nat} (h : W[c]? = some w) : (W ++ [x])[c]? = some w := by
  rw [List.getElem?_append_left (List.getElem?_eq_some_iff.1 h).1]; exact h
theorem get_lt {α : Type} {W : List α} {w : α} {c : Nat} (h : W[c]? = some w) : c < W.length := (List.getElem?_eq_some_iff.1 h).1
/-- What holds of the walks, once i of them are gone on from and of the next one k ports are seen. -/
structure UI (A : Net) (v d : Int) (i k : Nat) (W : List Wk) : Prop where
  head : W[0]? = some (rootW v)
  node : ∀ (c : Nat) (w : Wk), W[c]? = some w → 0 ≤ w.x ∧ w.x.toNat < A.ends.length ∧ 0 ≤ w.t ∧ w.t ≤ d
  kid : ∀ (c : Nat) (w : Wk), W[c]? = some w → 0 < c → ∃ (j : Nat) (z : Wk) (p : Nat), j < c ∧ (j < i ∨ (j = i ∧ p < k)) ∧ W[j]? = some z ∧ z.t < d ∧ (p : Int) ≠ z.q ∧ p < (rowE A.ends z.x).length ∧ w = kidW A.ends j z p
  all : ∀ (j : Nat) (z : Wk) (p : Nat), W[j]? = some z → z.t < d → (p : Int) ≠ z.q → p < (rowE A.ends z.x).length → (j < i ∨ (j = i ∧ p < k)) → ∃ c : Nat, 0 < c ∧ W[c]? = some (kidW A.ends j z p)
  inj : ∀ (c c' : Nat) (w w' : Wk), W[c]? = some w → W[c']? = some w' → 0 < c → 0 < c' → w.u = w'.u → w.b = w'.b → c = c'
section
variable {A : Net} {v d : Int} {i k : Nat} {w : Wk} {W : List Wk}
theorem rowE_at {x : Int} (h : x.toNat < A.ends.length) : rowE A.ends x = A.ends[x.toNat] := getD_eq h
theorem UI.init (hv : HasNode A v) (hd : 0 ≤ d) : UI A v d 0 0 [rootW v] := by
  have h1 : ∀ c w, [rootW v][c]? = some w → c = 0 ∧ w = rootW v := fun c w h => by
    have := get_lt h
    have e : c = 0 := by simp at this; omega
    subst e; simp at h; exact ⟨rfl, h.symm⟩
  refine ⟨rfl, fun c w h => ?_, fun c w h h0 => ?_, fun j z p _ _ _ _ h => by omega, fun c c' w w' h h' h0 => ?_⟩
  · obtain ⟨rfl, rfl⟩ := h1 c w h; exact ⟨hv.1, hv.2, Int.le_refl _, hd⟩
  · obtain ⟨rfl, rfl⟩ := h1 c w h; omega
  · obtain ⟨rfl, rfl⟩ := h1 c w h; omega
theorem UI.skip (h : UI A v d i k W) (hw : W[i]? = some w) (hq : (k : Int) = w.q) : UI A v d i (k + 1) W := by
  refine ⟨h.head, h.node, fun c z hz h0 => ?_, fun j z p hz ht hp hl hj => ?_, h.inj⟩
  · obtain ⟨j, z', p, h1, h2, h3⟩ := h.kid c z hz h0
    exact ⟨j, z', p, h1, by omega, h3⟩
  · by_cases e : j = i ∧ p = k
    · obtain ⟨rfl, rfl⟩ := e
      rw [hw] at hz; cases hz; exact absurd hq hp
    · exact h.all j z p hz ht hp hl (by omega)
theorem UI.new (hk : EndsOk A.ends) (h : UI A v d i k W) (hw : W[i]? = some w) (ht : w.t < d) (hq : ¬ (k : Int) = w.q) (hl : k < (rowE A.ends w.x).length) : UI A v d i (k + 1) (W ++ [kidW A.ends i w k]) := by
  have hwn := h.node i w hw
  have hi := get_lt hw
  have hold : ∀ c z, W[c]? = some z → 0 < c → z.u = (i : Int) → z.b = (k : Int) → False := fun c z hz h0 e1 e2 => by
    obtain ⟨j, z', p, h1, h2, h3, h4, h5, h6, rfl⟩ := h.kid c z hz h0
    simp only [kidW] at e1 e2
    omega
  refine ⟨snoc_old h.head, fun c z hz => ?_, fun c z hz h0 => ?_, fun j z p hz ht2 hp hl2 hj => ?_, fun c c' z z' hz hz' h0 h0' e1 e2 => ?_⟩
  · rcases snoc_get hz with hz | ⟨rfl, rfl⟩
    · exact h.node c z hz
    · have hr := rowE_at (A := A) hwn.2.1
      have he := hk _ (List.getElem_mem hwn.2.1) ((rowE A.ends w.x).getD k (0, 0)) (by rw [getD_eq hl]; rw [← hr]; exact List.getElem_mem hl)
      exact ⟨he.1, he.2, by show 0 ≤ w.t + 1; omega, by show w.t + 1 ≤ d; omega⟩
  · rcases snoc_get hz with hz | ⟨rfl, rfl⟩
    · obtain ⟨j, z', p, h1, h2, h3, h4⟩ := h.kid c z hz h0
      exact ⟨j, z', p, h1, by omega, snoc_old h3, h4⟩
    · exact ⟨i, w, k, hi, by omega, snoc_old hw, ht, hq, hl, rfl⟩
  · have hjl : j < W.length := by omega
    replace hz : W[j]? = some z := by rwa [List.getElem?_append_left hjl] at hz
    by_cases e : j = i ∧ p = k
    · obtain ⟨rfl, rfl⟩ := e
      rw [hw] at hz; cases hz
      exact ⟨W.length, by omega, by simp⟩
    · obtain ⟨c, h0, hc⟩ := h.all j z p hz ht2 hp hl2 (by omega)
      exact ⟨c, h0, snoc_old hc⟩
  · rcases snoc_get hz with hz | ⟨rfl, rfl⟩ <;> rcases snoc_get hz' with hz' | ⟨rfl, rfl⟩
    · exact h.inj c c' z z' hz hz' h0 h0' e1 e2
    · exact (hold c z hz h0 e1 e2).elim
    · exact (hold c' z' hz' h0' e1.symm e2.symm).elim
    · rfl
theorem UI.next (h : UI A v d i k W) (hw : W[i]? = some w) (hd : w.t = d ∨ (rowE A.ends w.x).length ≤ k) : UI A v d (i + 1) 0 W := by
  refine ⟨h.head, h.node, fun c z hz h0 => ?_, fun j z p hz ht hp hl hj => ?_, h.inj⟩
  · obtain ⟨j, z', p, h1, h2, h3⟩ := h.kid c z hz h0
    exact ⟨j, z', p, h1, by omega, h3⟩
  · by_cases e : j = i
    · subst e
      rw [hw] at hz; cases hz
      exact h.all j _ p hw ht hp hl (by omega)
    · exact h.all j z p hz ht hp hl (by omega)
theorem UI.runK (hk : EndsOk A.ends) (h : UI A v d i 0 W) (hw : W[i]? = some w) (ht : w.t < d) : ∀ k, k ≤ (rowE A.ends w.x).length → UI A v d i k (uK A.ends i w W k) := by
  intro k
  induction k with
  | zero => intro _; exact h
  | succ k ih =>
    intro hl
    have h1 := ih (by omega)
    have hw' : (uK A.ends i w W k)[i]? = some w := by rw [uK_at (get_lt hw)]; exact hw
    by_cases e : (k : Int) = w.q
    · rw [uK_skip e]; exact h1.skip hw' e
    · rw [uK_new e]; exact h1.new hk hw' ht e (by omega)
theorem UI.runN (hk : EndsOk A.ends) (hv : HasNode A v) (hd : 0 ≤ d) : ∀ i, i ≤ (uN A.ends v d i).length → UI A v d i 0 (uN A.ends v d i) := by
  intro i
  induction i with
  | zero => intro _; exact UI.init hv hd
  | succ i ih =>
    intro hl
    by_cases h : (uN A.ends v d i).length ≤ i
    · rw [uN_none h] at hl; omega
    · have h1 := ih (by omega)
      obtain ⟨w, hw⟩ : ∃ w, (uN A.ends v d i)[i]? = some w := ⟨_, List.getElem?_eq_getElem (by omega)⟩
      by_cases ht : w.t = d
      · rw [uN_leaf hw ht]; exact h1.next hw (.inl ht)
      · rw [uN_some hw ht]
        have hn := (h1.node i w hw).2.2.2
        have h2 := h1.runK hk hw (by omega) _ (Nat.le_refl _)
        exact h2.next (by rw [uK_at (get_lt hw)]; exact hw) (.inr (Nat.le_refl _))
end
/-- How many ports the tree's node of a walk has, and where its walk came by. -/
def zlW (ends : Ends) (d : Int) (w : Wk) : Nat := if w.t < d then (rowE ends w.x).length else if 0 < d then 1 else 0
def zrW (ends : Ends) (d : Int) (w : Wk) : List (Int × Int) := List.replicate (zlW ends d w) (0, 0)
def qFW (d : Int) (w : Wk) : Int := if w.t = d then 0 else w.q
/-- The tree with one walk more. -/
def attW (ends : Ends) (d : Int) (R : Ends) (w : Wk) : Ends := if w.u < 0 then R ++ [zrW ends d w] else R.set w.u.toNat ((R.getD w.u.toNat []).set w.b.toNat ((R.length : Int), qFW d w)) ++ [(zrW ends d w).set (qFW d w).toNat (w.u, w.b)]
def RI (ends : Ends) (d : Int) (W : List Wk) : Ends := W.foldl (attW ends d) []
section
variable {ends : Ends} {d : Int} {w : Wk} {W : List Wk} {R : Ends}
theorem RI_snoc : RI ends d (W ++ [w]) = attW ends d (RI ends d W) w := by simp [RI, List.foldl_append]
theorem attW_len : (attW ends d R w).length = R.length + 1 := by unfold attW; split <;> simp
theorem fold_len : ∀ (W : List Wk) (R : Ends), (W.foldl (attW ends d) R).length = R.length + W.length := by
  intro W
  induction W with
  | nil => intro R; rfl
  | cons x r ih => intro R; rw [List.foldl_cons, ih, attW_len]; simp; omega
theorem RI_len : (RI ends d W).length = W.length := by unfold RI; rw [fold_len]; simp
theorem zrW_len : (zrW ends d w).length = zlW ends d w := by simp [zrW]
def at2 (R : Ends) (c p : Nat) : Int × Int := (R.getD c []).getD p (0, 0)
theorem getD_app1 {α : Type} {l r : List α} {z : α} {c : Nat} (h : c < l.length) : (l ++ r).getD c z = l.getD c z := by simp [List.getD, List.getElem?_append_left h]
theorem getD_app2 {α : Type} {l : List α} {y z : α} : (l ++ [y]).getD l.length z = y := by simp [List.getD]
theorem attW_row (h : ¬ w.u < 0) {c : Nat} (hc : c < R.length) : (attW ends d R w).getD c [] = if c = w.u.toNat then (R.getD c []).set w.b.toNat ((R.length : Int), qFW d w) else R.getD c [] := by
  unfold attW
  rw [if_neg h, getD_app1 (by simpa using hc)]
  by_cases e : c = w.u.toNat
  · subst e; rw [if_pos rfl, getD_set_self hc]
  · rw [if_neg e, getD_set_ne (Ne.symm e)]
theorem attW_new (h : ¬ w.u < 0) : (attW ends d R w).getD R.length [] = (zrW ends d w).set (qFW d w).toNat (w.u, w.b) := by
  unfold attW
  rw [if_neg h]
  have : R.length = (R.set w.u.toNat ((R.getD w.u.toNat []).set w.b.toNat ((R.length : Int), qFW d w))).length := by simp
  conv => lhs; arg 2; rw [this]
  exact getD_app2
theorem attW_old (h : ¬ w.u < 0) {c p : Nat} (hc : c < R.length) (hn : ¬ (c = w.u.toNat ∧ p = w.b.toNat)) : at2 (attW ends d R w) c p = at2 R c p := by
  unfold at2
  rw [attW_row h hc]
  by_cases e : c = w.u.toNat
  · rw [if_pos e, getD_set_ne (fun e2 => hn ⟨e, e2.symm⟩)]
  · rw [if_neg e]
theorem attW_at (h : ¬ w.u < 0) (hc : w.u.toNat < R.length) (hb : w.b.toNat < (R.getD w.u.toNat []).length) : at2 (attW ends d R w) w.u.toNat w.b.toNat = ((R.length : Int), qFW d w) := by
  unfold at2
  rw [attW_row h hc, if_pos rfl, getD_set_self hb]
theorem attW_newat (h : ¬ w.u < 0) (hq : (qFW d w).toNat < zlW ends d w) : at2 (attW ends d R w) R.length (qFW d w).toNat = (w.u, w.b) := by
  unfold at2
  rw [attW_new h, getD_set_self (by rw [zrW_len]; exact hq)]
end
theorem take_snoc? {α : Type} {W : List α} {w : α} {n : Nat} (h : W[n]? = some w) : W.take (n + 1) = W.take n ++ [w] := by
  obtain ⟨h1, h2⟩ := List.getElem?_eq_some_iff.1 h
  rw [List.take_succ_eq_append_getElem h1, h2]
section
variable {A : Net} {v d : Int} {i k : Nat} {w : Wk} {W : List Wk}
/-- What a walk that goes on from another one says of the tree. -/
theorem UI.up (hA : NOk A) (h : UI A v d i k W) {c : Nat} (hw : W[c]? = some w) (h0 : 0 < c) : ¬ w.u < 0 ∧ w.u.toNat < c ∧ 0 ≤ w.b ∧ 0 ≤ qFW d w ∧ (qFW d w).toNat < zlW A.ends d w ∧ ∃ z, W[w.u.toNat]? = some z ∧ z.t < d ∧ w.b ≠ z.q ∧ w.b.toNat < zlW A.ends d z := by
  obtain ⟨j, z, p, h1, h2, h3, h4, h5, h6, rfl⟩ := h.kid c w hw h0
  have hz := h.node j z h3
  have hr := rowE_at (A := A) hz.2.1
  have hp : p < A.ends[z.x.toNat].length := by rw [← hr]; exact h6
  obtain ⟨e1, e2, e3, e4, e5⟩ := hA.endOk hz.2.1 hp
  have ee : (rowE A.ends z.x).getD p (0, 0) = A.ends[z.x.toNat][p] := by rw [hr, getD_eq hp]
  have hd0 : 0 < d := by omega
  have hzl : zlW A.ends d z = (rowE A.ends z.x).length := if_pos h4
  have hkt : (kidW A.ends j z p).t = z.t + 1 := rfl
  have hkx : (kidW A.ends j z p).x = A.ends[z.x.toNat][p].1 := congrArg Prod.fst ee
  have hkq : (kidW A.ends j z p).q = A.ends[z.x.toNat][p].2 := congrArg Prod.snd ee
  refine ⟨by show ¬ (j : Int) < 0; omega, by show (j : Int).toNat < c; omega, by show 0 ≤ (p : Int); omega, ?_, ?_, z, by show W[(j : Int).toNat]? = some z; rw [Int.toNat_natCast]; exact h3, h4, h5, by show (p : Int).toNat < _; rw [hzl]; omega⟩
  · unfold qFW
    split
    · omega
    · rw [hkq]; exact e3
  · unfold qFW zlW
    rw [hkt]
    by_cases e : z.t + 1 = d
    · rw [if_pos e, if_neg (by omega), if_pos hd0]; decide
    · rw [if_neg e, if_pos (by omega), hkq, hkx, rowE_at e2]; exact e4
theorem RI_take {n : Nat} (hw : W[n]? = some w) : RI A.ends d (W.take (n + 1)) = attW A.ends d (RI A.ends d (W.take n)) w := by rw [take_snoc? hw, RI_snoc]
theorem RI_tlen {n : Nat} (hn : n ≤ W.length) : (RI A.ends d (W.take n)).length = n := by rw [RI_len, List.length_take]; omega
theorem UI.u0 (h : UI A v d i k W) (hw : W[0]? = some w) : w = rootW v := by rw [h.head] at hw; cases hw; rfl
theorem RI_rows (hA : NOk A) (h : UI A v d i k W) : ∀ n, n ≤ W.length → ∀ c w, c < n → W[c]? = some w → ((RI A.ends d (W.take n)).getD c []).length = zlW A.ends d w := by
  intro n
  induction n with
  | zero => intro _ c w hc; omega
  | succ n ih =>
    intro hn c w hc hw
    obtain ⟨z, hz⟩ : ∃ z, W[n]? = some z := ⟨_, List.getElem?_eq_getElem (by omega)⟩
    have hl := RI_tlen (A := A) (d := d) (W := W) (n := n) (by omega)
    rw [RI_take hz]
    by_cases h0 : n = 0
    · subst h0
      have hc0 : c = 0 := by omega
      subst hc0
      rw [hw] at hz; cases hz
      have := h.u0 hw
      subst this
      unfold attW
      rw [if_pos (by show (-1 : Int) < 0; omega)]
      have e : RI A.ends d (W.take 0) = [] := by simp [RI]
      rw [e]
      exact zrW_len
    · obtain ⟨u1, u2, u3, u4, u5, y, u6, u7, u8, u9⟩ := h.up hA hz (by omega)
      by_cases hcn : c = n
      · subst hcn
        rw [hw] at hz; cases hz
        have := attW_new (ends := A.ends) (d := d) (R := RI A.ends d (W.take c)) u1
        rw [hl] at this
        rw [this, List.length_set, zrW_len]
      · rw [attW_row u1 (by omega)]
        have := ih (by omega) c w (by omega) hw
        split
        · rw [List.length_set]; exact this
        · exact this
theorem RI_ok (hA : NOk A) (h : UI A v d i k W) : ∀ n, n ≤ W.length → ∀ c w, c < n → 0 < c → W[c]? = some w → at2 (RI A.ends d (W.take n)) w.u.toNat w.b.toNat = ((c : Int), qFW d w) ∧ at2 (RI A.ends d (W.take n)) c (qFW d w).toNat = (w.u, w.b) := by
  intro n
  induction n with
  | zero => intro _ c w hc; omega
  | succ n ih =>
    intro hn c w hc h0 hw
    obtain ⟨z, hz⟩ : ∃ z, W[n]? = some z := ⟨_, List.getElem?_eq_getElem (by omega)⟩
    have hl := RI_tlen (A := A) (d := d) (W := W) (n := n) (by omega)
    rw [RI_take hz]
    obtain ⟨u1, u2, u3, u4, u5, y, u6, u7, u8, u9⟩ := h.up hA hz (by omega)
    have hrow := RI_rows hA h n (by omega) z.u.toNat y (by omega) u6
    by_cases hcn : c = n
    · subst hcn
      rw [hw] at hz; cases hz
      refine ⟨?_, ?_⟩
      · have := attW_at (ends := A.ends) (d := d) (R := RI A.ends d (W.take c)) u1 (by omega) (by omega)
        rw [hl] at this; exact this
      · have := attW_newat (ends := A.ends) (d := d) (R := RI A.ends d (W.take c)) u1 u5
        rw [hl] at this; exact this
    · obtain ⟨i1, i2⟩ := ih (by omega) c w (by omega) h0 hw
      obtain ⟨p1, p2, p3, p4, p5, y2, p6, p7, p8, p9⟩ := h.up hA hw h0
      refine ⟨?_, ?_⟩
      · rw [attW_old u1 (by omega) (fun e => hcn (h.inj c n w z hw hz h0 (by omega) (by omega) (by omega)))]; exact i1
      · rw [attW_old u1 (by omega) (fun e => ?_)]
        · exact i2
        · obtain ⟨e1, e2⟩ := e
          rw [← e1, hw] at u6
          cases u6
          have : qFW d w = w.q := if_neg (by omega)
          rw [this] at e2 p4
          omega
def inpW (A : Net) (w : Wk) : Int := A.inputs.getD w.x.toNat 0
theorem RI_end {n c p : Nat} (hc : c < (RI A.ends d (W.take n)).length) (hp : p < (RI A.ends d (W.take n))[c].length) : (RI A.ends d (W.take n))[c][p] = at2 (RI A.ends d (W.take n)) c p := by
  unfold at2
  rw [getD_eq hc, getD_eq hp]
theorem zlW_six (h6 : ∀ r ∈ A.ends, r.length ≤ 6) (hn : w.x.toNat < A.ends.length) : zlW A.ends d w ≤ 6 := by
  unfold zlW
  split
  · rw [rowE_at hn]; exact h6 _ (List.getElem_mem hn)
  · split <;> omega
/-- The tree of the walks is a valid network. -/
theorem unf_ok (hA : NOk A) (h : UI A v d i 0 W) (hi : W.length ≤ i) (h40 : W.length ≤ 40) : NOk ⟨RI A.ends d W, [], W.map (inpW A)⟩ := by
  have hL : (RI A.ends d W).length = W.length := RI_len
  have hpos := get_lt h.head
  have hT : W.take W.length = W := List.take_length
  have hrows := RI_rows hA h W.length (Nat.le_refl _)
  have hok := RI_ok hA h W.length (Nat.le_refl _)
  rw [hT] at hrows hok
  have hend : ∀ {c p : Nat} (hc : c < (RI A.ends d W).length) (hp : p < (RI A.ends d W)[c].length), (RI A.ends d W)[c][p] = at2 (RI A.ends d W) c p := fun hc hp => by unfold at2; rw [getD_eq hc, getD_eq hp]
  have hlen : ∀ c z (hc : c < (RI A.ends d W).length), W[c]? = some z → (RI A.ends d W)[c].length = zlW A.ends d z := fun c z hc hz => by
    have := hrows c z (get_lt hz) hz
    rwa [getD_eq hc] at this
  refine ⟨⟨by simp only []; omega, by simp only []; omega⟩, .inl rfl, by simp only [List.length_map]; omega, ?_, ?_⟩
  · have hin := hA.inputs
    unfold allR at hin ⊢
    rw [List.all_eq_true] at hin ⊢
    intro x hx
    obtain ⟨w, hw, rfl⟩ := List.mem_map.1 hx
    obtain ⟨c, hc, e⟩ := List.mem_iff_getElem.1 hw
    have hn := h.node c w (by rw [List.getElem?_eq_getElem hc, e])
    have hil := hA.inLen
    unfold inpW
    rw [getD_eq (by omega)]
    exact hin _ (List.getElem_mem _)
  · intro c hc
    obtain ⟨w, hw⟩ : ∃ w, W[c]? = some w := ⟨_, List.getElem?_eq_getElem (by simp only [] at hc; omega)⟩
    have hn := h.node c w hw
    have hcl := hlen c w hc hw
    refine ⟨?_, fun p hp => ?_⟩
    · have := zlW_six (d := d) hA.six hn.2.1
      simp only []
      omega
    · simp only [] at hp ⊢
      rw [hend hc hp]
      rw [hcl] at hp
      have key : ∀ c' z, W[c']? = some z → 0 < c' → z.u = (c : Int) → z.b = (p : Int) → EndOk ⟨RI A.ends d W, [], W.map (inpW A)⟩ c p (at2 (RI A.ends d W) c p) := fun c' z hz h0 e1 e2 => by
        obtain ⟨o1, o2⟩ := hok c' z (get_lt hz) h0 hz
        obtain ⟨p1, p2, p3, p4, p5, y2, p6, p7, p8, p9⟩ := h.up hA hz h0
        have hcz := get_lt hz
        rw [e1, e2, Int.toNat_natCast, Int.toNat_natCast] at o1
        rw [o1]
        have hc' : c' < (RI A.ends d W).length := by omega
        have hl' := hlen c' z hc' hz
        refine ⟨by show 0 ≤ (c' : Int); omega, hc', p4, by show (qFW d z).toNat < ((RI A.ends d W)[c']).length; omega, ?_⟩
        show (RI A.ends d W)[c'][(qFW d z).toNat] = _
        rw [hend hc' (by omega), o2, e1, e2]
      have keyq : 0 < c → (p : Int) = qFW d w → EndOk ⟨RI A.ends d W, [], W.map (inpW A)⟩ c p (at2 (RI A.ends d W) c p) := fun h0 ep => by
        obtain ⟨o1, o2⟩ := hok c w (get_lt hw) h0 hw
        obtain ⟨p1, p2, p3, p4, p5, y2, p6, p7, p8, p9⟩ := h.up hA hw h0
        rw [show (qFW d w).toNat = p by omega] at o2
        rw [o2]
        have hu := get_lt p6
        have hu' : w.u.toNat < (RI A.ends d W).length := by omega
        have hl' := hlen w.u.toNat y2 hu' p6
        refine ⟨by show 0 ≤ w.u; omega, hu', p3, by show w.b.toNat < ((RI A.ends d W)[w.u.toNat]).length; omega, ?_⟩
        show (RI A.ends d W)[w.u.toNat][w.b.toNat] = _
        rw [hend hu' (by omega), o1, ep]
      have root0 : c = 0 → w = rootW v := fun e => by subst e; exact h.u0 hw
      by_cases ht : w.t < d
      · have hz : zlW A.ends d w = (rowE A.ends w.x).length := if_pos ht
        by_cases eq : (p : Int) = w.q
        · refine keyq ?_ (by unfold qFW; rw [if_neg (by omega)]; exact eq)
          rcases Nat.eq_zero_or_pos c with e | e
          · have := root0 e; subst this
            have : (p : Int) = -1 := eq
            omega
          · exact e
        · obtain ⟨c', h0, hz'⟩ := h.all c w p hw ht eq (by omega) (by have := get_lt hw; omega)
          exact key c' _ hz' h0 rfl rfl
      · have hd : w.t = d := by omega
        unfold zlW at hp
        rw [if_neg ht] at hp
        by_cases h0d : 0 < d
        · rw [if_pos h0d] at hp
          refine keyq ?_ (by unfold qFW; rw [if_pos hd]; omega)
          rcases Nat.eq_zero_or_pos c with e | e
          · have := root0 e; subst this
            have : (0 : Int) = d := hd
            omega
          · exact e
        · rw [if_neg h0d] at hp; omega
end
/-- The unfolding of a network from a node, to a depth. -/
def unfN (A : Net) (v d : Int) : Net := ⟨RI A.ends d (uN A.ends v d 41), [], (uN A.ends v d 41).map (inpW A)⟩
def UOk (A : Net) (v d : Int) : Prop := NN A v ∧ (0 ≤ d ∧ d ≤ 80) ∧ (uN A.ends v d 41).length ≤ 40
theorem unfN_ok {A : Net} {v d : Int} (h : UOk A v d) : NOk (unfN A v d) := by
  obtain ⟨⟨hA, hv⟩, hd, h40⟩ := h
  have hk := hA.endsOk
  by_cases hl : 41 ≤ (uN A.ends v d 41).length
  · omega
  · obtain ⟨i, hi1, hi2⟩ : ∃ i, (uN A.ends v d i).length = i ∧ i ≤ 40 := by
      refine Classical.byContradiction fun hno => ?_
      have : ∀ i, i ≤ 41 → i < (uN A.ends v d i).length := fun i => by
        induction i with
        | zero => intro _; simp [uN_zero]
        | succ i ih =>
          intro h1
          have h2 := ih (by omega)
          have h3 := (uN_step (ends := A.ends) (v := v) (d := d) (i := i)).length_le
          have h4 : ¬ (uN A.ends v d (i + 1)).length = i + 1 := fun e => hno ⟨i + 1, e, by
            have := (uN_le (ends := A.ends) (v := v) (d := d) (i := i + 1) (j := 41) h1).length_le
            omega⟩
          omega
      have := this 41 (Nat.le_refl _)
      omega
    have hU := UI.runN hk hv hd.1 i (by omega)
    have e := uN_done (ends := A.ends) (v := v) (d := d) (i := i) (by omega) (by omega)
    unfold unfN
    rw [e]
    exact unf_ok hA hU (by omega) (by omega)
/-- The reference's rows: all of them empty first, then the ends of each walk. -/
def RZ (ends : Ends) (d : Int) (W : List Wk) : Ends := W.map (zrW ends d)
def RS (ends : Ends) (d : Int) (W : List Wk) (c : Nat) : Ends := RI ends d (W.take c) ++ (RZ ends d W).drop c
section
variable {A : Net} {v d : Int} {i k c : Nat} {w : Wk} {W : List Wk}
theorem RZ_len : (RZ A.ends d W).length = W.length := by simp [RZ]
theorem RS_len : (RS A.ends d W c).length = W.length := by
  unfold RS; rw [List.length_append, RI_len, List.length_take, List.length_drop, RZ_len]; omega
theorem RS_full : RS A.ends d W W.length = RI A.ends d W := by unfold RS; rw [List.take_length, List.drop_eq_nil_of_le (by rw [RZ_len]; exact Nat.le_refl _), List.append_nil]
theorem RZ_drop (hw : W[c]? = some w) : (RZ A.ends d W).drop c = zrW A.ends d w :: (RZ A.ends d W).drop (c + 1) := by
  obtain ⟨h1, h2⟩ := List.getElem?_eq_some_iff.1 hw
  have hl : c < (RZ A.ends d W).length := by rw [RZ_len]; exact h1
  rw [List.drop_eq_getElem_cons hl]
  congr 1
  simp only [RZ, List.getElem_map, h2]
theorem RS_zero (h : UI A v d i k W) : RZ A.ends d W = RS A.ends d W 1 := by
  have hl := get_lt h.head
  have h1 := RZ_drop (A := A) (d := d) h.head
  rw [List.drop_zero] at h1
  unfold RS
  rw [h1, RI_take h.head]
  have e : RI A.ends d (W.take 0) = [] := by simp [RI]
  rw [e]
  unfold attW
  rw [if_pos (by show (-1 : Int) < 0; omega)]
  rfl
theorem RS_row (hA : NOk A) (h : UI A v d i k W) {c n : Nat} (hn : n ≤ W.length) (hw : W[c]? = some w) (hc : c < (RS A.ends d W n).length) : (RS A.ends d W n)[c].length = zlW A.ends d w := by
  have hl := RI_tlen (A := A) (d := d) (W := W) (n := n) hn
  have hcl := get_lt hw
  by_cases hcn : c < n
  · have := RI_rows hA h n hn c w hcn hw
    rw [getD_eq (by omega)] at this
    simp only [RS, List.getElem_append_left (show c < (RI A.ends d (W.take n)).length by omega)]
    exact this
  · have e : (RS A.ends d W n)[c] = zrW A.ends d w := by
      obtain ⟨h1, h2⟩ := List.getElem?_eq_some_iff.1 hw
      simp only [RS, List.getElem_append_right (show (RI A.ends d (W.take n)).length ≤ c by omega), List.getElem_drop, RZ, List.getElem_map, hl]
      congr 1
      rw [← h2]
      congr 1
      omega
    rw [e, zrW_len]
/-- The two ends of a walk are laid. -/
theorem RS_succ (hA : NOk A) (h : UI A v d i k W) (h0 : 0 < c) (hw : W[c]? = some w) {u b q : Nat} (hu : w.u.toNat = u) (hb : w.b.toNat = b) (hq : (qFW d w).toNat = q) (h1 : u < (RS A.ends d W c).length) (h2 : c < ((RS A.ends d W c).set u ((RS A.ends d W c)[u].set b ((c : Int), qFW d w))).length) :
    ((RS A.ends d W c).set u ((RS A.ends d W c)[u].set b ((c : Int), qFW d w))).set c (((RS A.ends d W c).set u ((RS A.ends d W c)[u].set b ((c : Int), qFW d w)))[c].set q (w.u, w.b)) = RS A.ends d W (c + 1) := by
  obtain ⟨u1, u2, u3, u4, u5, y, u6, u7, u8, u9⟩ := h.up hA hw h0
  have hcl := get_lt hw
  have hl := RI_tlen (A := A) (d := d) (W := W) (n := c) (by omega)
  subst hu hb hq
  have ed := RZ_drop (A := A) (d := d) hw
  have eu : (RS A.ends d W c)[w.u.toNat] = (RI A.ends d (W.take c)).getD w.u.toNat [] := by
    simp only [RS, List.getElem_append_left (show w.u.toNat < (RI A.ends d (W.take c)).length by omega)]
    rw [getD_eq]
  have e1 : (RS A.ends d W c).set w.u.toNat ((RS A.ends d W c)[w.u.toNat].set w.b.toNat ((c : Int), qFW d w)) = (RI A.ends d (W.take c)).set w.u.toNat (((RI A.ends d (W.take c)).getD w.u.toNat []).set w.b.toNat ((c : Int), qFW d w)) ++ (zrW A.ends d w :: (RZ A.ends d W).drop (c + 1)) := by
    rw [eu]
    conv => lhs; unfold RS
    rw [List.set_append_left _ _ (by omega), ed]
  have e2 : ((RS A.ends d W c).set w.u.toNat ((RS A.ends d W c)[w.u.toNat].set w.b.toNat ((c : Int), qFW d w)))[c] = zrW A.ends d w := by
    simp only [e1]
    rw [List.getElem_append_right (by simp; omega)]
    simp [hl]
  rw [e2, e1, List.set_append_right _ _ (by simp; omega)]
  have e3 : c - ((RI A.ends d (W.take c)).set w.u.toNat (((RI A.ends d (W.take c)).getD w.u.toNat []).set w.b.toNat ((c : Int), qFW d w))).length = 0 := by simp; omega
  rw [e3, List.set_cons_zero]
  unfold RS
  rw [RI_take hw]
  unfold attW
  rw [if_neg u1, hl, List.append_assoc]
  rfl
end

end Go.Proofs.Ytladejfcplpnaaa
