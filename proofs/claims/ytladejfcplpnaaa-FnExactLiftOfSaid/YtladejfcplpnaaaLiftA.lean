/- Lifts: what is written, that it is a network; contracts of the reference's edges and of spec.coLift. -/
import Derived.Test.YtladejfcplpnaaaIso
import Derived.Test.YtladejfcplpnaaaTwoCol
import Derived.Test.YtladejfcplpnaaaForest
import Derived.Test.YtladejfcplpnaaaLib
import Derived.Test.YtladejfcplpnaaaQuot2
import Derived.Test.YtladejfcplpnaaaLits
import Derived.Test.YtladejfcplpnaaaPower
import Derived.Test.YtladejfcplpnaaaDrawV
namespace Go.Proofs.Ytladejfcplpnaaa
open Go Go.RowKit

def at2 (R : Ends) (x i : Nat) : Int × Int := (R.getD x []).getD i (0, 0)
def put2 (R : Ends) (x i : Nat) (e : Int × Int) : Ends := R.set x ((R.getD x []).set i e)
def rowl (R : Ends) (x : Nat) : Nat := (R.getD x []).length
theorem put2_len {R : Ends} {x i : Nat} {e : Int × Int} : (put2 R x i e).length = R.length := by simp [put2]
theorem put2_row {R : Ends} {x i v : Nat} {e : Int × Int} : rowl (put2 R x i e) v = rowl R v := by
  unfold rowl put2
  by_cases hx : x < R.length
  · by_cases hv : x = v
    · subst hv
      rw [getD_eq (by simpa using hx), List.getElem_set_self, List.length_set]
    · simp [List.getD, List.getElem?_set_ne hv]
  · rw [List.set_eq_of_length_le (by omega)]
theorem put2_at {R : Ends} {x i v j : Nat} {e : Int × Int} (hx : x < R.length) (hi : i < rowl R x) : at2 (put2 R x i e) v j = if x = v ∧ i = j then e else at2 R v j := by
  unfold at2 put2
  by_cases hv : x = v
  · subst hv
    rw [show (R.set x ((R.getD x []).set i e)).getD x [] = (R.getD x []).set i e by rw [getD_eq (by simpa using hx), List.getElem_set_self]]
    by_cases hj : i = j
    · subst hj
      rw [if_pos ⟨rfl, rfl⟩, getD_eq (by rw [List.length_set]; exact hi), List.getElem_set_self]
    · rw [if_neg (fun h => hj h.2)]
      simp [List.getD, List.getElem?_set_ne hj]
  · rw [if_neg (fun h => hv h.1)]
    simp [List.getD, List.getElem?_set_ne hv]
/-- Both ends of the s-th copy of an edge. -/
def lfW (k : Nat) (q : Quad) (s : Nat) (t : Int) (R : Ends) : Ends := put2 (put2 R (q.1.toNat * k + s) q.2.1.toNat (q.2.2.1 * (k : Int) + t, q.2.2.2)) (q.2.2.1.toNat * k + t.toNat) q.2.2.2.toNat (q.1 * (k : Int) + (s : Int), q.2.1)
def lfS (k : Nat) (q : Quad) (p : List Int) (R : Ends) : Nat → Ends
  | 0 => R
  | s + 1 => lfW k q s (p.getD s 0) (lfS k q p R s)
def lf0 (A : Net) (k : Nat) : Ends := (List.range (k * A.ends.length)).map fun x => List.replicate (A.ends.getD (x / k) []).length (0, 0)
/-- The ends after m edges. -/
def lfM (A : Net) (k : Nat) (perms : List (List Int)) : Nat → Ends
  | 0 => lf0 A k
  | m + 1 => lfS k ((edL A.ends).getD m (0, 0, 0, 0)) (perms.getD m []) (lfM A k perms m) k
def liftN (A : Net) (k : Nat) (perms : List (List Int)) : Net := ⟨lfM A k perms (edL A.ends).length, [], (List.range (k * A.ends.length)).map fun x => A.inputs.getD (x / k) 0⟩
def StQ (q : Quad) : Prop := q.1 = q.2.2.1 ∧ q.2.1 = q.2.2.2
/-- What LiftOf asks for. -/
structure LF (A : Net) (k : Nat) (perms : List (List Int)) : Prop where
  a : NOk A
  k1 : 1 ≤ k
  kn : k * A.ends.length ≤ 40
  len : perms.length = (edL A.ends).length
  perm : ∀ m (h : m < perms.length), IsPerm perms[m] k
  stub : ∀ m (h : m < perms.length) (h2 : m < (edL A.ends).length), StQ (edL A.ends)[m] → ∀ s, s < k → perms[m].getD (perms[m].getD s 0).toNat 0 = (s : Int)
/-- Of the shape of a lift. -/
def Shp (A : Net) (k : Nat) (R : Ends) : Prop := R.length = k * A.ends.length ∧ ∀ x, x < R.length → rowl R x = (A.ends.getD (x / k) []).length
section
variable {A : Net} {k : Nat} {perms : List (List Int)}
theorem lf0_shp : Shp A k (lf0 A k) := by
  refine ⟨by simp [lf0], fun x hx => ?_⟩
  unfold rowl
  rw [getD_eq hx]
  simp [lf0]
theorem put2_shp {R : Ends} {x i : Nat} {e : Int × Int} (h : Shp A k R) : Shp A k (put2 R x i e) := ⟨by rw [put2_len]; exact h.1, fun v hv => by rw [put2_row]; exact h.2 v (by rwa [put2_len] at hv)⟩
theorem lfW_shp {R : Ends} {q : Quad} {s : Nat} {t : Int} (h : Shp A k R) : Shp A k (lfW k q s t R) := put2_shp (put2_shp h)
theorem lfS_shp {R : Ends} {q : Quad} {p : List Int} (h : Shp A k R) : ∀ s, Shp A k (lfS k q p R s)
  | 0 => h
  | s + 1 => lfW_shp (lfS_shp h s)
theorem lfM_shp : ∀ m, Shp A k (lfM A k perms m)
  | 0 => lf0_shp
  | m + 1 => lfS_shp (lfM_shp m) k
theorem nodup_idx9 {α : Type} {l : List α} (h : l.Nodup) {a b : Nat} (ha : a < l.length) (hb : b < l.length) (e : l[a] = l[b]) : a = b := by
  have hp := List.pairwise_iff_getElem.1 h
  rcases Nat.lt_trichotomy a b with h1 | h1 | h1
  · exact absurd e (hp a b ha hb h1)
  · exact h1
  · exact absurd e.symm (hp b a hb ha h1)
/-- The place of y in a list. -/
def inv9 {α : Type} [DecidableEq α] (p : List α) (y : α) : Int := idxF (fun x => decide (x = y)) p
theorem inv9_at {α : Type} [DecidableEq α] {p : List α} (hn : p.Nodup) {s : Nat} (hs : s < p.length) : inv9 p p[s] = (s : Int) :=
  idxF_at hs (decide_eq_true rfl) fun j hj h2 => decide_eq_false fun e => by have := nodup_idx9 hn h2 hs e; omega
/-- The end that the lift has at port i of node x. -/
def lfF (A : Net) (k : Nat) (perms : List (List Int)) (x i : Nat) : Int × Int :=
  let e := at2 A.ends (x / k) i
  let p := perms.getD (inv9 (edL A.ends) (quadOf A.ends (x / k) i e)).toNat []
  if fstE (x / k) i e then (e.1 * (k : Int) + p.getD (x % k) 0, e.2) else (e.1 * (k : Int) + inv9 p ((x % k : Nat) : Int), e.2)
theorem at2_eq {R : Ends} {x i : Nat} (hx : x < R.length) (hi : i < R[x].length) : at2 R x i = R[x][i] := by unfold at2; rw [getD_eq hx, getD_eq hi]
theorem edL_nodup (h : NOk A) : (edL A.ends).Nodup := by
  have := (edN_key (ends := A.ends) A.ends.length (Nat.le_refl _)).1
  rw [List.Nodup, List.pairwise_iff_getElem]
  intro i j hi hj hij e
  rw [List.Nodup, List.pairwise_iff_getElem] at this
  exact this i j (by simpa [edL] using hi) (by simpa [edL] using hj) hij (by simp only [List.getElem_map]; exact congrArg (fun q : Quad => (q.1, q.2.1)) e)
theorem divk {v s : Nat} (hs : s < k) : (v * k + s) / k = v ∧ (v * k + s) % k = s := by
  constructor
  · rw [Nat.mul_comm, Nat.mul_add_div (by omega), Nat.div_eq_of_lt hs, Nat.add_zero]
  · rw [Nat.mul_comm, Nat.mul_add_mod, Nat.mod_eq_of_lt hs]
theorem ltk {v n s : Nat} (hv : v < n) (hs : s < k) : v * k + s < k * n := by
  have : (v + 1) * k ≤ n * k := Nat.mul_le_mul_right k hv
  rw [Nat.add_mul, Nat.one_mul] at this
  rw [Nat.mul_comm k n]; omega
theorem pget {p : List Int} (hp : IsPerm p k) {s : Nat} (hs : s < k) : ∃ hl : s < p.length, p.getD s 0 = p[s] ∧ 0 ≤ p[s] ∧ p[s].toNat < k := by
  have h1 := hp.1
  have hl : s < p.length := by omega
  have := hp.2.1 _ (List.getElem_mem hl)
  exact ⟨hl, getD_eq hl, this.1, by omega⟩
theorem inv9_mem {p : List Int} {u : Int} (hm : u ∈ p) (hn : p.Nodup) : ∃ s, ∃ h : s < p.length, p[s] = u ∧ inv9 p u = (s : Int) := by
  obtain ⟨s, hs, e⟩ := List.mem_iff_getElem.1 hm
  exact ⟨s, hs, e, by rw [← e]; exact inv9_at hn hs⟩
theorem perm_mem {p : List Int} (hp : IsPerm p k) {u : Nat} (hu : u < k) : (u : Int) ∈ p := by
  refine Classical.byContradiction fun hno => ?_
  have key : ∀ (n : Nat) (l : List Int), l.Nodup → (∀ x ∈ l, 0 ≤ x ∧ x < (n : Int)) → l.length ≤ n := by
    intro n
    induction n with
    | zero =>
      intro l _ h
      cases l with
      | nil => simp
      | cons x r => have := h x (List.mem_cons_self ..); omega
    | succ n ih =>
      intro l hn h
      have h1 := ih (l.filter fun x => decide (x ≠ (n : Int))) (hn.sublist List.filter_sublist) fun x hx => by
        obtain ⟨h1, h2⟩ := List.mem_filter.1 hx
        have := h x h1
        have := of_decide_eq_true h2
        omega
      have h2 : l.length ≤ (l.filter fun x => decide (x ≠ (n : Int))).length + 1 := by
        clear ih h1 h
        induction l with
        | nil => simp
        | cons x r ihr =>
          rw [List.nodup_cons] at hn
          by_cases e : x = (n : Int)
          · subst e
            rw [List.filter_cons_of_neg (by simp)]
            have : r.filter (fun x => decide (x ≠ (n : Int))) = r := List.filter_eq_self.2 fun y hy => decide_eq_true fun e => hn.1 (e ▸ hy)
            rw [this]; simp
          · rw [List.filter_cons_of_pos (by simpa using e)]
            have := ihr hn.2
            simp only [List.length_cons]; omega
      omega
  have h2 := key k ((u : Int) :: p) (List.nodup_cons.2 ⟨hno, hp.2.2⟩) fun x hx => by
    rcases List.mem_cons.1 hx with rfl | hx
    · omega
    · have := hp.2.1 x hx; omega
  have := hp.1
  simp only [List.length_cons] at h2
  omega
/-- An edge of the list: its ports. -/
structure QOk (A : Net) (m : Nat) (v i w j : Nat) : Prop where
  lt : m < (edL A.ends).length
  eq : (edL A.ends)[m] = ((v : Int), (i : Int), (w : Int), (j : Int))
  hv : v < A.ends.length
  hi : i < A.ends[v].length
  hw : w < A.ends.length
  hj : j < A.ends[w].length
  e1 : A.ends[v][i] = ((w : Int), (j : Int))
  e2 : A.ends[w][j] = ((v : Int), (i : Int))
  fst : fstE v i ((w : Int), (j : Int))
theorem qok (h : NOk A) {m : Nat} (hm : m < (edL A.ends).length) : ∃ v i w j, QOk A m v i w j := by
  obtain ⟨v, hv, i, hi, hf, e⟩ := edL_mem.1 (List.getElem_mem hm)
  obtain ⟨h1, h2, h3, h4, h5⟩ := h.endOk hv hi
  have ee : A.ends[v][i] = ((A.ends[v][i].1.toNat : Int), (A.ends[v][i].2.toNat : Int)) := Prod.ext (by simp only []; omega) (by simp only []; omega)
  exact ⟨v, i, A.ends[v][i].1.toNat, A.ends[v][i].2.toNat, hm, by rw [e]; exact congrArg (fun x : Int × Int => ((v : Int), (i : Int), x.1, x.2)) ee, hv, hi, h2, h4, ee, h5, by rw [← ee]; exact hf⟩
theorem qidx (h : NOk A) {m : Nat} (hm : m < (edL A.ends).length) : (inv9 (edL A.ends) (edL A.ends)[m]).toNat = m := by rw [inv9_at (edL_nodup h) hm]; rfl
theorem F_first (h : LF A k perms) {m v i w j : Nat} (q : QOk A m v i w j) {s : Nat} (hs : s < k) : lfF A k perms (v * k + s) i = ((w : Int) * (k : Int) + (perms.getD m []).getD s 0, (j : Int)) := by
  unfold lfF
  rw [(divk hs).1, (divk hs).2]
  simp only [at2_eq q.hv q.hi, q.e1]
  rw [if_pos q.fst, show quadOf A.ends v i ((w : Int), (j : Int)) = (edL A.ends)[m]'q.lt by unfold quadOf; rw [if_pos q.fst, q.eq], qidx h.a q.lt]
theorem F_second (h : LF A k perms) {m v i w j : Nat} (q : QOk A m v i w j) {s : Nat} (hs : s < k) : lfF A k perms (w * k + ((perms.getD m []).getD s 0).toNat) j = ((v : Int) * (k : Int) + (s : Int), (i : Int)) := by
  have hm : m < perms.length := by rw [h.len]; exact q.lt
  obtain ⟨hl, g1, g2, g3⟩ := pget (h.perm m hm) hs
  rw [getD_eq hm, g1]
  unfold lfF
  rw [(divk g3).1, (divk g3).2]
  simp only [at2_eq q.hw q.hj, q.e2]
  by_cases hf : fstE w j ((v : Int), (i : Int))
  · have hf1 := q.fst
    unfold fstE at hf hf1
    simp only [] at hf hf1
    have e1 : v = w := by omega
    have e2 : i = j := by omega
    subst e1 e2
    rw [if_pos q.fst, show quadOf A.ends v i ((v : Int), (i : Int)) = (edL A.ends)[m]'q.lt by unfold quadOf; rw [if_pos q.fst, q.eq], qidx h.a q.lt, getD_eq hm]
    have := h.stub m hm q.lt (by rw [q.eq]; exact ⟨rfl, rfl⟩) s hs
    rw [g1] at this
    rw [this]
  · rw [if_neg hf, show quadOf A.ends w j ((v : Int), (i : Int)) = (edL A.ends)[m]'q.lt by unfold quadOf; rw [if_neg hf, q.eq], qidx h.a q.lt, getD_eq hm]
    have : inv9 perms[m] ((perms[m][s].toNat : Nat) : Int) = (s : Int) := by
      rw [show ((perms[m][s].toNat : Nat) : Int) = perms[m][s] by omega]
      exact inv9_at (h.perm m hm).2.2 hl
    rw [this]
/-- It is as it shall be at this port. -/
def Gd (A : Net) (k : Nat) (perms : List (List Int)) (R : Ends) (x i : Nat) : Prop := at2 R x i = lfF A k perms x i
theorem Gd.put {R : Ends} {x i v j : Nat} {e : Int × Int} (hx : x < R.length) (hi : i < rowl R x) (he : e = lfF A k perms x i) (h : Gd A k perms R v j ∨ (x = v ∧ i = j)) : Gd A k perms (put2 R x i e) v j := by
  unfold Gd
  rw [put2_at hx hi]
  split
  · rename_i hh; rw [he, hh.1, hh.2]
  · rename_i hh
    rcases h with h | h
    · exact h
    · exact absurd h hh
theorem lfW_gd (h : LF A k perms) {m v i w j : Nat} (q : QOk A m v i w j) {s : Nat} (hs : s < k) {R : Ends} (hR : Shp A k R) {x y : Nat} (hg : Gd A k perms R x y ∨ (x = v * k + s ∧ y = i) ∨ (x = w * k + ((perms.getD m []).getD s 0).toNat ∧ y = j)) :
    Gd A k perms (lfW k ((edL A.ends).getD m (0, 0, 0, 0)) s ((perms.getD m []).getD s 0) R) x y := by
  have hm : m < perms.length := by rw [h.len]; exact q.lt
  obtain ⟨hl, g1, g2, g3⟩ := pget (h.perm m hm) hs
  have hpm : perms.getD m [] = perms[m] := getD_eq hm
  rw [hpm] at hg ⊢
  rw [g1] at hg ⊢
  have hx1 := ltk q.hv hs
  have hx2 := ltk q.hw g3
  rw [getD_eq q.lt, q.eq]
  unfold lfW
  simp only [Int.toNat_natCast]
  have f1 := F_first h q hs
  have f2 := F_second h q hs
  rw [hpm, g1] at f1 f2
  refine Gd.put (by rw [put2_len, hR.1]; exact hx2) (by rw [put2_row, hR.2 _ (by rw [hR.1]; exact hx2), (divk g3).1, getD_eq q.hw]; exact q.hj) f2.symm ?_
  rcases hg with hg | hg | hg
  · exact .inl (Gd.put (by rw [hR.1]; exact hx1) (by rw [hR.2 _ (by rw [hR.1]; exact hx1), (divk hs).1, getD_eq q.hv]; exact q.hi) f1.symm (.inl hg))
  · exact .inl (Gd.put (by rw [hR.1]; exact hx1) (by rw [hR.2 _ (by rw [hR.1]; exact hx1), (divk hs).1, getD_eq q.hv]; exact q.hi) f1.symm (.inr ⟨hg.1.symm, hg.2.symm⟩))
  · exact .inr ⟨hg.1.symm, hg.2.symm⟩
theorem lfS_gd (h : LF A k perms) {m v i w j : Nat} (q : QOk A m v i w j) {R : Ends} (hR : Shp A k R) {x y : Nat} : ∀ s, s ≤ k → (Gd A k perms R x y ∨ ∃ t, t < s ∧ ((x = v * k + t ∧ y = i) ∨ (x = w * k + ((perms.getD m []).getD t 0).toNat ∧ y = j))) →
    Gd A k perms (lfS k ((edL A.ends).getD m (0, 0, 0, 0)) (perms.getD m []) R s) x y := by
  intro s
  induction s with
  | zero => rintro _ (hg | ⟨t, ht, _⟩); exact hg; omega
  | succ s ih =>
    intro hs hg
    refine lfW_gd h q (by omega) (lfS_shp hR s) ?_
    rcases hg with hg | ⟨t, ht, hg⟩
    · exact .inl (ih (by omega) (.inl hg))
    · by_cases e : t = s
      · subst e; exact .inr hg
      · exact .inl (ih (by omega) (.inr ⟨t, by omega, hg⟩))
theorem lfM_gd (h : LF A k perms) : ∀ n, n ≤ (edL A.ends).length → ∀ m v i w j, m < n → QOk A m v i w j → ∀ t, t < k → ∀ x y, ((x = v * k + t ∧ y = i) ∨ (x = w * k + ((perms.getD m []).getD t 0).toNat ∧ y = j)) → Gd A k perms (lfM A k perms n) x y := by
  intro n
  induction n with
  | zero => intro _ m v i w j hm; omega
  | succ n ih =>
    intro hn m v i w j hm q t ht x y hxy
    obtain ⟨v', i', w', j', q'⟩ := qok h.a (show n < (edL A.ends).length by omega)
    refine lfS_gd h q' (lfM_shp n) k (Nat.le_refl _) ?_
    by_cases e : m = n
    · subst e
      have := q.eq.symm.trans q'.eq
      simp only [Prod.mk.injEq] at this
      have e1 : v = v' := by omega
      have e2 : i = i' := by omega
      have e3 : w = w' := by omega
      have e4 : j = j' := by omega
      subst e1 e2 e3 e4
      exact .inr ⟨t, ht, hxy⟩
    · exact .inl (ih (by omega) m v i w j (by omega) q t ht x y hxy)
/-- Each port of the lift was written. -/
theorem lift_at (h : LF A k perms) {x i : Nat} (hx : x < k * A.ends.length) (hi : i < (A.ends.getD (x / k) []).length) : at2 (liftN A k perms).ends x i = lfF A k perms x i := by
  have hk := h.k1
  have hv : x / k < A.ends.length := Nat.div_lt_of_lt_mul hx
  have hu : x % k < k := Nat.mod_lt _ (by omega)
  have hxe : x = x / k * k + x % k := by have := Nat.div_add_mod x k; rw [Nat.mul_comm] at this; exact this.symm
  rw [getD_eq hv] at hi
  obtain ⟨m, hm, e⟩ := List.mem_iff_getElem.1 (quadOf_mem (ends := A.ends) (fun v hv i hi => h.a.endOk hv hi) hv hi)
  obtain ⟨v, i', w, j, q⟩ := qok h.a hm
  have hmp : m < perms.length := by rw [h.len]; exact hm
  have e9 := q.eq.symm.trans e
  obtain ⟨h1, h2, h3, h4, h5⟩ := h.a.endOk hv hi
  unfold quadOf at e9
  split at e9
  · simp only [Prod.mk.injEq] at e9
    exact lfM_gd h _ (Nat.le_refl _) m v i' w j hm q (x % k) hu x i (.inl ⟨by rw [show v = x / k by omega]; exact hxe, by omega⟩)
  · simp only [Prod.mk.injEq] at e9
    obtain ⟨s, hs, e1, _⟩ := inv9_mem (perm_mem (h.perm m hmp) hu) (h.perm m hmp).2.2
    have hsk : s < k := by have := (h.perm m hmp).1; omega
    refine lfM_gd h _ (Nat.le_refl _) m v i' w j hm q s hsk x i (.inr ⟨?_, by omega⟩)
    rw [getD_eq hmp, getD_eq hs, e1, show w = x / k by omega, Int.toNat_natCast]; exact hxe
theorem lift_ok (h : LF A k perms) : NOk (liftN A k perms) := by
  have hk := h.k1
  have hn := h.a.nodes
  have hsh := lfM_shp (A := A) (k := k) (perms := perms) (edL A.ends).length
  have hkn := h.kn
  have hpos : 1 ≤ k * A.ends.length := by have := Nat.mul_le_mul hk (show 1 ≤ A.ends.length by omega); omega
  have hl : (liftN A k perms).ends.length = k * A.ends.length := hsh.1
  have hin := h.a.inLen
  refine ⟨by rw [hl]; omega, .inl (by simp [liftN]), by rw [hl]; simp [liftN], ?_, fun x hx => ?_⟩
  · refine allR_true.2 fun y hy => ?_
    obtain ⟨x, hx, rfl⟩ := List.mem_map.1 hy
    have hv : x / k < A.ends.length := Nat.div_lt_of_lt_mul (List.mem_range.1 hx)
    rw [getD_eq (show x / k < A.inputs.length by omega)]
    exact allR_true.1 h.a.inputs _ (List.getElem_mem _)
  · have hx2 : x < k * A.ends.length := by rw [← hl]; exact hx
    have hv : x / k < A.ends.length := Nat.div_lt_of_lt_mul hx2
    have hu : x % k < k := Nat.mod_lt _ (by omega)
    have hxe : x = x / k * k + x % k := by have := Nat.div_add_mod x k; rw [Nat.mul_comm] at this; exact this.symm
    have hrow : (liftN A k perms).ends[x].length = A.ends[x / k].length := by
      have e0 : rowl (liftN A k perms).ends x = (A.ends.getD (x / k) []).length := hsh.2 x hx
      unfold rowl at e0
      rw [getD_eq hx, getD_eq hv] at e0
      exact e0
    refine ⟨by rw [hrow]; exact (h.a.rows _ hv).1, fun i hi => ?_⟩
    have hiA : i < A.ends[x / k].length := by rw [← hrow]; exact hi
    have hat := lift_at h hx2 (by rw [getD_eq hv]; exact hiA)
    rw [at2_eq hx hi] at hat
    obtain ⟨m, hm, e⟩ := List.mem_iff_getElem.1 (quadOf_mem (ends := A.ends) (fun v hv i hi => h.a.endOk hv hi) hv hiA)
    obtain ⟨v, i', w, j, q⟩ := qok h.a hm
    have hmp : m < perms.length := by rw [h.len]; exact hm
    have e9 := q.eq.symm.trans e
    obtain ⟨h1, h2, h3, h4, h5⟩ := h.a.endOk hv hiA
    -- the other side, and that it leads back
    have fin : ∀ (y j' : Nat) (hy : y < k * A.ends.length) (hyv : y / k < A.ends.length) (hj : j' < A.ends[y / k].length), (liftN A k perms).ends[x][i] = ((y : Int), (j' : Int)) → lfF A k perms y j' = ((x : Int), (i : Int)) → EndOk (liftN A k perms) x i (liftN A k perms).ends[x][i] := by
      intro y j' hy hyv hj e1 e2
      have hyl : y < (liftN A k perms).ends.length := by rw [hl]; exact hy
      have hrow2 : (liftN A k perms).ends[y].length = A.ends[y / k].length := by
        have e0 : rowl (liftN A k perms).ends y = (A.ends.getD (y / k) []).length := hsh.2 y hyl
        unfold rowl at e0
        rw [getD_eq hyl, getD_eq hyv] at e0
        exact e0
      have hj2 : j' < (liftN A k perms).ends[y].length := by rw [hrow2]; exact hj
      have hat2 := lift_at h hy (by rw [getD_eq hyv]; exact hj)
      rw [at2_eq hyl hj2, e2] at hat2
      rw [e1]
      exact ⟨by simp only []; omega, by simpa using hyl, by simp only []; omega, by simpa using hj2, by simpa using hat2⟩
    unfold quadOf at e9
    split at e9
    · simp only [Prod.mk.injEq] at e9
      have ev : v = x / k := by omega
      have ei : i' = i := by omega
      subst ei
      obtain ⟨hl2, g1, g2, g3⟩ := pget (h.perm m hmp) hu
      have f1 := F_first h q hu
      have f2 := F_second h q hu
      rw [getD_eq hmp, g1] at f1 f2
      rw [ev, ← hxe] at f1
      have hdk := divk (v := w) g3
      refine fin (w * k + perms[m][x % k].toNat) j (ltk q.hw g3) (by rw [hdk.1]; exact q.hw) (by simp only [hdk.1]; exact q.hj) ?_ ?_
      · rw [hat, f1]
        refine Prod.ext ?_ rfl
        show (w : Int) * (k : Int) + perms[m][x % k] = ((w * k + perms[m][x % k].toNat : Nat) : Int)
        rw [Int.natCast_add, Int.natCast_mul]; omega
      · rw [f2, ev]
        refine Prod.ext ?_ rfl
        show ((x / k : Nat) : Int) * (k : Int) + ((x % k : Nat) : Int) = (x : Int)
        rw [← Int.natCast_mul, ← Int.natCast_add]
        exact congrArg _ hxe.symm
    · simp only [Prod.mk.injEq] at e9
      have ew : w = x / k := by omega
      have ej : j = i := by omega
      subst ej
      obtain ⟨s, hs, e1, _⟩ := inv9_mem (perm_mem (h.perm m hmp) hu) (h.perm m hmp).2.2
      have hsk : s < k := by have := (h.perm m hmp).1; omega
      have f1 := F_first h q hsk
      have f2 := F_second h q hsk
      rw [getD_eq hmp, getD_eq hs, e1] at f1 f2
      rw [ew, Int.toNat_natCast, ← hxe] at f2
      have hdk := divk (v := v) hsk
      refine fin (v * k + s) i' (ltk q.hv hsk) (by rw [hdk.1]; exact q.hv) (by simp only [hdk.1]; exact q.hi) ?_ ?_
      · rw [hat, f2]
        refine Prod.ext ?_ rfl
        show (v : Int) * (k : Int) + (s : Int) = ((v * k + s : Nat) : Int)
        rw [Int.natCast_add, Int.natCast_mul]
      · rw [f1, ew]
        refine Prod.ext ?_ rfl
        show ((x / k : Nat) : Int) * (k : Int) + ((x % k : Nat) : Int) = (x : Int)
        rw [← Int.natCast_mul, ← Int.natCast_add]
        exact congrArg _ hxe.symm
end

def qL (q : Quad) : List Int := [q.1, q.2.1, q.2.2.1, q.2.2.2]
def qR (qs : List Quad) : List (List Int) := qs.map qL
theorem qR_len (qs : List Quad) : (qR qs).length = qs.length := by simp [qR]
theorem qR_app (qs : List Quad) (q : Quad) : qR qs ++ [qL q] = qR (qs ++ [q]) := by simp [qR]
theorem qR_at {qs : List Quad} {i : Nat} (h : i < (qR qs).length) (h2 : i < qs.length) : (qR qs)[i] = qL qs[i] := by simp [qR]

set_option maxRecDepth 100000 in
theorem neFirst_spec {loA hiA : Nat} (nA : NA) (A : Net) (v i : Nat) (hv : v < A.ends.length) (hi : i < A.ends[v].length) (w : World) (hA : IsNet loA hiA w nA A) (hhiA : hiA ≤ w.heap.size) (hnA : totN A ≤ 1048576) :
    Fn Try.prog 52 #[netV nA A, VI (v : Int), VI (i : Int)] w (fun o9 w' => o9 = VB (decide (fstE v i A.ends[v][i])) ∧ Ext w w') := by
  have hqA := totL_len A.ends
  have hmA : totL A.ends + A.ids.length + A.inputs.length ≤ 1048576 := hnA
  have hE := Ext.refl w
  refine Fn_of Try.func52 rfl rfl (by kernel_rfl) rfl ?_
  refine W_seq ?_
  refine W_region ?_
  refine WL_m rfl (ev_box rfl) ?_
  rintro _ w3 ⟨rfl, hN3⟩
  have hz3 := hN3.size
  replace hE := hE.trans hN3.ext
  replace hA := hA.ext hN3.ext
  have hB3 : Blk w3 _ _ [_, _, _] := hN3.blk
  refine WL_q rfl (ev_assign rfl) ?_
  refine WL_nil ?_
  refine thenE_n ?_
  refine W_seq ?_
  refine W_region ?_
  refine WL_q rfl (ev_fieldAddr fo31_0 rfl) ?_
  refine WL_q rfl (ev_load one29 rfl (hB3.cell rfl)) ?_
  refine WL_q rfl (ev_move rfl) ?_
  have hl11 : v < A.ends.length := by omega
  have ht11 := totL_le hl11
  obtain ⟨a11, c11, hc11, hr11⟩ := hA.ends.row hl11
  refine WL_q rfl (ev_indexAddr Try.underlying29 sz56 rfl rfl (hA.ends.isSome (by omega)) (by omega) (by omega)) ?_
  refine WL_q rfl (ev_load one56 rfl (hc11)) ?_
  refine WL_q rfl (ev_move rfl) ?_
  refine WL_q rfl (ev_indexAddr Try.underlying56 sz61 rfl rfl (hr11.isSome (by omega)) (by omega) (by omega)) ?_
  refine WL_q rfl (ev_loads st61 sz61 rfl (hr11.cells (i := i) (by omega)) rfl) ?_
  refine WL_m rfl (ev_alloc zr61) ?_
  rintro _ w7 ⟨rfl, hN7⟩
  have hz7 := hN7.size
  replace hE := hE.trans hN7.ext
  replace hA := hA.ext hN7.ext
  replace hB3 := hB3.ext hN7.ext
  replace hr11 := hr11.ext hN7.ext
  have hB7 : Blk w7 _ _ [_, _] := hN7.blk
  refine WL_s (ev_stores sz61 rfl rfl rfl (by simp [Value.oneCell']) hB7 (by simp)) ?_
  rintro _ w1_9 hS1_9
  have hz1_9 := hS1_9.size
  replace hE := hE.sto hS1_9 (by omega)
  replace hA := hA.sto hS1_9 (by omega)
  replace hB3 := hB3.sto hS1_9 (by omega)
  replace hr11 := hr11.sto hS1_9 (by omega)
  replace hB7 : Blk w1_9 _ _ [_, _] := hS1_9.blk
  refine WL_nil ?_
  refine thenE_n ?_
  refine W_seq ?_
  refine W_region ?_
  refine WL_q rfl (ev_move rfl) ?_
  refine WL_q rfl (ev_fieldAddr fo61_0 rfl) ?_
  refine WL_q rfl (ev_load one3 rfl (hB7.cell rfl)) ?_
  refine WL_q rfl (ev_lss rfl rfl) ?_
  refine WL_q rfl (ev_move rfl) ?_
  refine WL_splitv (t := 20) rfl (fun hg19 => ?_) (fun hg19 => ?_)
  · have hp19 := of_decide_eq_true hg19
    refine WL_no rfl rfl hg19 rfl ?_
    refine WL_no rfl rfl hg19 rfl ?_
    refine WL_no rfl rfl hg19 rfl ?_
    refine WL_no rfl rfl hg19 rfl ?_
    refine WL_no rfl rfl hg19 rfl ?_
    refine WL_nou rfl rfl rfl ?_
    refine WL_nou rfl rfl rfl ?_
    refine WL_nou rfl rfl rfl ?_
    refine WL_nou rfl rfl rfl ?_
    refine WL_no rfl rfl hg19 rfl ?_
    refine WL_q rfl (ev_pick_t rfl hg19 rfl) ?_
    refine WL_q rfl (ev_assign rfl) ?_
    refine WL_nil ?_
    refine thenE_n ?_
    refine W_ret ?_
    refine ret1 rfl rfl ?_
    first | (exact ⟨vb (decide_eq_true (.inl hp19)).symm, hE⟩) | (exact ⟨vb (decide_eq_decide.2 ⟨fun h => .inr ⟨hp24, h⟩, fun h => (by rcases h with h | h; omega; exact h.2)⟩), hE⟩) | (exact ⟨vb (decide_eq_false fun h => (by rcases h with h | h; exact hp19 h; exact hp24 h.1)).symm, hE⟩)
  · have hp19 := of_decide_eq_false hg19
    refine WL_qg rfl rfl hg19 rfl (ev_move rfl) ?_
    refine WL_qg rfl rfl hg19 rfl (ev_fieldAddr fo61_0 rfl) ?_
    refine WL_qg rfl rfl hg19 rfl (ev_load one3 rfl (hB7.cell rfl)) ?_
    refine WL_qg rfl rfl hg19 rfl (ev_eql rfl rfl) ?_
    refine WL_qg rfl rfl hg19 rfl (ev_move rfl) ?_
    refine WL_splitv (t := 25) rfl (fun hg24 => ?_) (fun hg24 => ?_)
    · have hp24 := of_decide_eq_true hg24
      refine WL_qg rfl rfl hg24 rfl (ev_move rfl) ?_
      refine WL_qg rfl rfl hg24 rfl (ev_fieldAddr fo61_1 rfl) ?_
      refine WL_qg rfl rfl hg24 rfl (ev_load one3 rfl (hB7.cell rfl)) ?_
      refine WL_qg rfl rfl hg24 rfl (ev_leq rfl rfl) ?_
      refine WL_qg rfl rfl hg19 rfl (ev_pick_t rfl hg24 rfl) ?_
      refine WL_q rfl (ev_pick_f rfl hg19 rfl) ?_
      refine WL_q rfl (ev_assign rfl) ?_
      refine WL_nil ?_
      refine thenE_n ?_
      refine W_ret ?_
      refine ret1 rfl rfl ?_
      first | (exact ⟨vb (decide_eq_true (.inl hp19)).symm, hE⟩) | (exact ⟨vb (decide_eq_decide.2 ⟨fun h => .inr ⟨hp24, h⟩, fun h => (by rcases h with h | h; omega; exact h.2)⟩), hE⟩) | (exact ⟨vb (decide_eq_false fun h => (by rcases h with h | h; exact hp19 h; exact hp24 h.1)).symm, hE⟩)
    · have hp24 := of_decide_eq_false hg24
      refine WL_no rfl rfl hg24 rfl ?_
      refine WL_no rfl rfl hg24 rfl ?_
      refine WL_no rfl rfl hg24 rfl ?_
      refine WL_no rfl rfl hg24 rfl ?_
      refine WL_qg rfl rfl hg19 rfl (ev_pick_f rfl hg24 rfl) ?_
      refine WL_q rfl (ev_pick_f rfl hg19 rfl) ?_
      refine WL_q rfl (ev_assign rfl) ?_
      refine WL_nil ?_
      refine thenE_n ?_
      refine W_ret ?_
      refine ret1 rfl rfl ?_
      first | (exact ⟨vb (decide_eq_true (.inl hp19)).symm, hE⟩) | (exact ⟨vb (decide_eq_decide.2 ⟨fun h => .inr ⟨hp24, h⟩, fun h => (by rcases h with h | h; omega; exact h.2)⟩), hE⟩) | (exact ⟨vb (decide_eq_false fun h => (by rcases h with h | h; exact hp19 h; exact hp24 h.1)).symm, hE⟩)

set_option maxHeartbeats 4000000 in
set_option maxRecDepth 100000 in
theorem neEdges_spec {loA hiA : Nat} (nA : NA) (A : Net) (w : World) (hA : IsNet loA hiA w nA A) (hhiA : hiA ≤ w.heap.size) (hnA : totN A ≤ 1048576) (h6 : ∀ r ∈ A.ends, r.length ≤ 6) (h40 : A.ends.length ≤ 40) :
    Fn Try.prog 28 #[netV nA A] w (fun o9 w' => ∃ a' c', o9 = .slice a' (edL A.ends).length c' ∧ Intss w.heap.size w'.heap.size w' a' c' (qR (edL A.ends)) ∧ Ext w w') := by
  have hqA := totL_len A.ends
  have hmA : totL A.ends + A.ids.length + A.inputs.length ≤ 1048576 := hnA
  have hE := Ext.refl w
  refine Fn_of Try.func28 rfl rfl (by kernel_rfl) rfl ?_
  refine W_seq ?_
  refine W_region ?_
  refine WL_m rfl (ev_box rfl) ?_
  rintro _ w1 ⟨rfl, hN1⟩
  have hz1 := hN1.size
  replace hE := hE.trans hN1.ext
  replace hA := hA.ext hN1.ext
  have hB1 : Blk w1 _ _ [_, _, _] := hN1.blk
  refine WL_q rfl (ev_assign rfl) ?_
  refine WL_nil ?_
  refine thenE_n ?_
  refine W_seq ?_
  refine W_region ?_
  refine WL_q rfl (ev_assign rfl) ?_
  refine WL_nil ?_
  refine thenE_n ?_
  refine W_seq ?_
  refine W_seq ?_
  refine W_region ?_
  refine WL_q rfl (ev_fieldAddr fo31_0 rfl) ?_
  refine WL_q rfl (ev_load one29 rfl (hB1.cell rfl)) ?_
  refine WL_q rfl (ev_len Try.underlying29 rfl) ?_
  refine WL_q rfl (ev_move rfl) ?_
  refine WL_nil ?_
  refine thenE_n ?_
  refine W_block ?_
  refine W_loopC (G := Nat × Option Addr × Nat) [(1, _), (9, _), (10, _)] ((Subs.c rfl (Subs.c rfl (Subs.c rfl Subs.n)))) (fun ⟨i, a, c⟩ => [(3, .slice a (qR (edN A.ends i)).length c), (11, VI (i : Int))]) (fun ⟨i, a, c⟩ w' => Ext w1 w' ∧ i ≤ A.ends.length ∧ RowsF w1.heap.size w'.heap.size w' 3 23 a c (qR (edN A.ends i))) (fun g => A.ends.length - g.1) (0, none, 0) ((Subs.c rfl (Subs.c (lkI rfl (by omega)) Subs.n))) (⟨Ext.refl _, ⟨Nat.zero_le _, RowsF.nil⟩⟩) ?_
  rintro ⟨i, a, c⟩ wL0 ⟨hRL0, hi', hR⟩
  have hzL0 := hRL0.size
  replace hE := hE.trans hRL0
  replace hA := hA.ext hRL0
  replace hB1 := hB1.ext hRL0
  refine W_seq ?_
  refine W_region ?_
  refine WL_q rfl (ev_lss rfl rfl) ?_
  refine WL_nil ?_
  refine thenE_n ?_
  refine W_seq ?_
  refine W_cond rfl (fun hg12 => ?_) (fun hg12 => ?_)
  · have hp12 := of_decide_eq_true hg12
    refine W_skip ?_
    refine thenE_n ?_
    refine W_seq ?_
    refine W_block ?_
    refine W_seq ?_
    refine W_region ?_
    refine WL_q rfl (ev_move rfl) ?_
    have hlt : i < A.ends.length := by omega
    have hl14 : i < A.ends.length := by omega
    have ht14 := totL_le hl14
    obtain ⟨a14, c14, hc14, hr14⟩ := hA.ends.row hl14
    refine WL_q rfl (ev_indexAddr Try.underlying29 sz56 rfl rfl (hA.ends.isSome (by omega)) (by omega) (by omega)) ?_
    refine WL_q rfl (ev_load one56 rfl (hc14)) ?_
    refine WL_q rfl (ev_assign rfl) ?_
    refine WL_q rfl (ev_assign rfl) ?_
    refine WL_nil ?_
    refine thenE_n ?_
    refine W_seq ?_
    refine W_region ?_
    refine WL_q rfl (ev_move rfl) ?_
    refine WL_q rfl (ev_len Try.underlying56 rfl) ?_
    refine WL_q rfl (ev_move rfl) ?_
    refine WL_nil ?_
    refine thenE_n ?_
    refine W_block ?_
    refine W_loopC (G := Nat × Option Addr × Nat) [(1, _), (4, _), (9, _), (10, _), (11, _), (16, _), (17, _)] ((Subs.c rfl (Subs.c rfl (Subs.c rfl (Subs.c rfl (Subs.c rfl (Subs.c rfl (Subs.c rfl Subs.n)))))))) (fun ⟨k, a2, c2⟩ => [(3, .slice a2 (qR (edN A.ends i ++ edR i A.ends[i] k)).length c2), (18, VI (k : Int))]) (fun ⟨k, a2, c2⟩ w' => Lo (w1.heap.size) wL0 w' ∧ k ≤ A.ends[i].length ∧ RowsF w1.heap.size w'.heap.size w' 3 23 a2 c2 (qR (edN A.ends i ++ edR i A.ends[i] k))) (fun g => A.ends[i].length - g.1) (0, a, c) ((Subs.c (lkS rfl (by simp [edR])) (Subs.c (lkI rfl (by omega)) Subs.n))) (⟨Lo.refl (by omega), ⟨Nat.zero_le _, hR.to (by simp [edR])⟩⟩) ?_
    rintro ⟨k, a2, c2⟩ wL2 ⟨hRL2, hk', hR⟩
    have hzL2 := hRL2.size
    replace hA := hA.lo hRL2 (by omega)
    replace hB1 := hB1.lo hRL2 (by omega)
    replace hr14 := hr14.lo hRL2 (by omega)
    replace hE := hE.lo hRL2 (by omega)
    replace hRL0 := hRL0.lo hRL2 (by omega)
    have hqrl := qR_len (edN A.ends i ++ edR i A.ends[i] k)
    refine W_seq ?_
    refine W_region ?_
    refine WL_q rfl (ev_lss rfl rfl) ?_
    refine WL_nil ?_
    refine thenE_n ?_
    refine W_seq ?_
    refine W_cond rfl (fun hg19 => ?_) (fun hg19 => ?_)
    · have hp19 := of_decide_eq_true hg19
      refine W_skip ?_
      refine thenE_n ?_
      refine W_seq ?_
      refine W_block ?_
      refine W_seq ?_
      refine W_region ?_
      refine WL_q rfl (ev_move rfl) ?_
      have hlt2 : k < A.ends[i].length := by omega
      have h6i := h6 _ (List.getElem_mem hlt)
      have hbd := edN_bd h6 h40 hlt (k := k)
      refine WL_q rfl (ev_indexAddr Try.underlying56 sz61 rfl rfl (hr14.isSome (by omega)) (by omega) (by omega)) ?_
      refine WL_q rfl (ev_loads st61 sz61 rfl (hr14.cells (i := k) (by omega)) rfl) ?_
      refine WL_m rfl (ev_alloc zr61) ?_
      rintro _ w7 ⟨rfl, hN7⟩
      have hz7 := hN7.size
      replace hE := hE.trans hN7.ext
      replace hRL0 := hRL0.trans hN7.ext
      replace hRL2 := hRL2.trans hN7.ext
      replace hA := hA.ext hN7.ext
      replace hB1 := hB1.ext hN7.ext
      replace hr14 := hr14.ext hN7.ext
      replace hR := hR.ext hN7.ext
      have hB7 : Blk w7 _ _ [_, _] := hN7.blk
      refine WL_q rfl (ev_assign rfl) ?_
      refine WL_s (ev_stores sz61 rfl rfl rfl (by simp [Value.oneCell']) hB7 (by simp)) ?_
      rintro _ w7_5 hS7_5
      have hz7_5 := hS7_5.size
      replace hE := hE.sto hS7_5 (by omega)
      replace hRL0 := hRL0.sto hS7_5 (by omega)
      replace hRL2 := hRL2.sto hS7_5 (by omega)
      replace hA := hA.sto hS7_5 (by omega)
      replace hB1 := hB1.sto hS7_5 (by omega)
      replace hr14 := hr14.sto hS7_5 (by omega)
      replace hR := hR.sto hS7_5 (by omega)
      replace hB7 : Blk w7_5 _ _ [_, _] := hS7_5.blk
      refine WL_nil ?_
      refine thenE_n ?_
      refine W_seq ?_
      refine W_region ?_
      refine WL_q rfl (ev_loads st31 sz31 rfl (cellsB hB1) rfl) ?_
      refine WL_q rfl (ev_move rfl) ?_
      refine WL_q rfl (ev_move rfl) ?_
      refine WL_m rfl (ev_call rfl (neFirst_spec _ A i k hlt hlt2 _ hA (by omega) (by omega))) ?_
      rintro _ w26 ⟨rfl, hE26⟩
      have hz26 := hE26.size
      replace hE := hE.trans hE26
      replace hRL0 := hRL0.trans hE26
      replace hRL2 := hRL2.trans hE26
      replace hA := hA.ext hE26
      replace hB1 := hB1.ext hE26
      replace hr14 := hr14.ext hE26
      replace hR := hR.ext hE26
      replace hB7 := hB7.ext hE26
      refine WL_nil ?_
      refine thenE_n ?_
      refine W_cond rfl (fun hg26 => ?_) (fun hg26 => ?_)
      · refine W_region ?_
        refine WL_q rfl (ev_move rfl) ?_
        refine WL_q rfl (ev_move rfl) ?_
        refine WL_q rfl (ev_move rfl) ?_
        refine WL_q rfl (ev_fieldAddr fo61_0 rfl) ?_
        refine WL_q rfl (ev_load one3 rfl (hB7.cell rfl)) ?_
        refine WL_q rfl (ev_fieldAddr fo61_1 rfl) ?_
        refine WL_q rfl (ev_load one3 rfl (hB7.cell rfl)) ?_
        refine WL_m rfl (ev_lit4I Try.underlying23 el3 rfl rfl rfl rfl) ?_
        rintro _ w34 ⟨rfl, hN34⟩
        have hz34 := hN34.size
        replace hE := hE.trans hN34.ext
        replace hRL0 := hRL0.trans hN34.ext
        replace hRL2 := hRL2.trans hN34.ext
        replace hA := hA.ext hN34.ext
        replace hB1 := hB1.ext hN34.ext
        replace hr14 := hr14.ext hN34.ext
        replace hR := hR.ext hN34.ext
        replace hB7 := hB7.ext hN34.ext
        have hB34 := hN34.blk
        have hOl := own_of_blk (cs := (qL ((i : Int), (k : Int), A.ends[i][k].1, A.ends[i][k].2)).map VI) (n := 4) (lo := wL2.heap.size) hB34 (by omega) rfl (by decide)
        refine WL_m rfl (ev_lit1 Try.underlying26 el23 (by decide) (by decide) rfl rfl) ?_
        rintro _ w35 ⟨rfl, hN35⟩
        have hz35 := hN35.size
        replace hE := hE.trans hN35.ext
        replace hRL0 := hRL0.trans hN35.ext
        replace hRL2 := hRL2.trans hN35.ext
        replace hA := hA.ext hN35.ext
        replace hB1 := hB1.ext hN35.ext
        replace hr14 := hr14.ext hN35.ext
        replace hR := hR.ext hN35.ext
        replace hB7 := hB7.ext hN35.ext
        replace hB34 := hB34.ext hN35.ext
        replace hOl := hOl.ext hN35.ext
        have hB35 := hN35.blk
        obtain ⟨vs36, hA36⟩ := hR
        have hP36 := hA36.out
        refine WL_m rfl (ev_append Try.underlying26 el23 rfl (by decide) rfl rfl hP36 (SAt.of_blk (cs := [_]) (ds := []) hB35) rfl (by simp [Value.oneCell']) (by omega) (by unfold maxLen; omega) (by omega)) ?_
        rintro _ w36 ⟨a36, c36, rfl, hO36, hK36, hQ36⟩
        have hz36 := hK36.size
        replace hE := hE.app hK36 (fun q hq => by have h1 := (hP36.block q hq).1; have h2 := hA36.otop q hq; omega)
        replace hRL0 := hRL0.app hK36 (fun q hq => by have h1 := (hP36.block q hq).1; have h2 := hA36.otop q hq; omega)
        replace hRL2 := hRL2.app hK36 (fun q hq => by have h1 := (hP36.block q hq).1; have h2 := hA36.otop q hq; omega)
        replace hA := hA.app hK36 (hP36) (by omega)
        replace hB1 := hB1.app hK36 (hP36) (by omega)
        replace hr14 := hr14.app hK36 (hP36) (by omega)
        have hP36 := hO36
        have hR := rowsf_snoc hA36 hOl (by omega) (by omega) hK36 hP36 rfl hQ36 (by omega)
        refine WL_q rfl (ev_assign rfl) ?_
        refine WL_nil ?_
        refine blockE_n ?_
        refine thenE_n ?_
        refine W_region ?_
        refine WL_q rfl (ev_add rfl rfl (by omega)) ?_
        refine WL_q rfl (ev_move rfl) ?_
        refine WL_nil ?_
        refine thenE_n ?_
        have hfe := edR_yes (v := i) hlt2 (of_decide_eq_true hg26)
        have hfe2 : qR (edN A.ends i ++ edR i A.ends[i] k) ++ [qL ((i : Int), (k : Int), A.ends[i][k].1, A.ends[i][k].2)] = qR (edN A.ends i ++ edR i A.ends[i] (k + 1)) := by rw [qR_app, hfe, List.append_assoc]
        exact ⟨(k + 1, a36, c36), (Subs.c rfl (Subs.c rfl (Subs.c rfl (Subs.c rfl (Subs.c rfl (Subs.c rfl (Subs.c rfl Subs.n))))))), (Subs.c (lkS rfl (by rw [← hfe2]; simp)) (Subs.c (lkI rfl (by omega)) Subs.n)), ⟨hRL2, ⟨by omega, (hR.to hfe2).up (by omega)⟩⟩, by first | omega | (dsimp only; omega)⟩
      · refine W_skip ?_
        refine blockE_n ?_
        refine thenE_n ?_
        refine W_region ?_
        refine WL_q rfl (ev_add rfl rfl (by omega)) ?_
        refine WL_q rfl (ev_move rfl) ?_
        refine WL_nil ?_
        refine thenE_n ?_
        have hfe := edR_no (v := i) hlt2 (of_decide_eq_false hg26)
        exact ⟨(k + 1, a2, c2), (Subs.c rfl (Subs.c rfl (Subs.c rfl (Subs.c rfl (Subs.c rfl (Subs.c rfl (Subs.c rfl Subs.n))))))), (Subs.c (lkS rfl (by rw [hfe])) (Subs.c (lkI rfl (by omega)) Subs.n)), ⟨hRL2, ⟨by omega, (hR.to (by rw [hfe])).up (by omega)⟩⟩, by first | omega | (dsimp only; omega)⟩
    · have hp19 := of_decide_eq_false hg19
      refine W_exit ?_
      refine thenE_x ?_
      refine thenE_x ?_
      refine blockE_hit ?_
      refine blockE_n ?_
      refine thenE_n ?_
      refine W_region ?_
      refine WL_q rfl (ev_add rfl rfl (by omega)) ?_
      refine WL_q rfl (ev_move rfl) ?_
      refine WL_nil ?_
      refine thenE_n ?_
      have hk9 : k = A.ends[i].length := by omega
      subst hk9
      exact ⟨(i + 1, a2, c2), (Subs.c rfl (Subs.c rfl (Subs.c rfl Subs.n))), (Subs.c (lkS rfl (by rw [edN_succ hlt])) (Subs.c (lkI rfl (by omega)) Subs.n)), ⟨hRL0, ⟨by omega, (hR.to (by rw [edN_succ hlt])).up (by omega)⟩⟩, by first | omega | (dsimp only; omega)⟩
  · have hp12 := of_decide_eq_false hg12
    refine W_exit ?_
    refine thenE_x ?_
    refine thenE_x ?_
    refine blockE_hit ?_
    refine thenE_n ?_
    refine W_seq ?_
    refine W_region ?_
    refine WL_q rfl (ev_move rfl) ?_
    refine WL_q rfl (ev_assign rfl) ?_
    refine WL_nil ?_
    refine thenE_n ?_
    refine W_ret ?_
    refine ret1 rfl rfl ?_
    have hi9 : i = A.ends.length := by omega
    subst hi9
    exact ⟨_, _, by rw [qR_len]; rfl, hR.is.mono (by omega) (by omega), hE⟩

set_option maxRecDepth 100000 in
theorem stub_spec (q : Quad) (w : World) :
    Fn Try.prog 36 #[.agg #[VI q.1, VI q.2.1, VI q.2.2.1, VI q.2.2.2]] w (fun v w' => ∃ b, v = VB b ∧ (b = true ↔ StQ q) ∧ Ext w w') := by
  have hE := Ext.refl w
  refine Fn_of Try.func36 rfl rfl (by kernel_rfl) rfl ?_
  refine W_seq ?_
  refine W_region ?_
  refine WL_m rfl (ev_box rfl) ?_
  rintro _ w1 ⟨rfl, hN1⟩
  have hz1 := hN1.size
  replace hE := hE.trans hN1.ext
  have hB1 : Blk w1 _ _ [_, _, _, _] := hN1.blk
  refine WL_q rfl (ev_assign rfl) ?_
  refine WL_nil ?_
  refine thenE_n ?_
  refine W_seq ?_
  refine W_region ?_
  refine WL_q rfl (ev_fieldAddr fo58_0 rfl) ?_
  refine WL_q rfl (ev_load one3 rfl (hB1.cell rfl)) ?_
  refine WL_q rfl (ev_fieldAddr fo58_2 rfl) ?_
  refine WL_q rfl (ev_load one3 rfl (hB1.cell rfl)) ?_
  refine WL_q rfl (ev_eql rfl rfl) ?_
  refine WL_q rfl (ev_move rfl) ?_
  refine WL_splitv (t := 8) rfl (fun hg7 => ?_) (fun hg7 => ?_)
  · have hp7 := of_decide_eq_true hg7
    refine WL_qg rfl rfl hg7 rfl (ev_fieldAddr fo58_1 rfl) ?_
    refine WL_qg rfl rfl hg7 rfl (ev_load one3 rfl (hB1.cell rfl)) ?_
    refine WL_qg rfl rfl hg7 rfl (ev_fieldAddr fo58_3 rfl) ?_
    refine WL_qg rfl rfl hg7 rfl (ev_load one3 rfl (hB1.cell rfl)) ?_
    refine WL_qg rfl rfl hg7 rfl (ev_eql rfl rfl) ?_
    refine WL_q rfl (ev_pick_t rfl hg7 rfl) ?_
    refine WL_q rfl (ev_assign rfl) ?_
    refine WL_nil ?_
    refine thenE_n ?_
    refine W_ret ?_
    refine ret1 rfl rfl ?_
    first | (exact ⟨_, rfl, ⟨fun h => ⟨hp7, of_decide_eq_true h⟩, fun h => decide_eq_true h.2⟩, hE⟩) | (exact ⟨_, rfl, ffI fun h => hp7 h.1, hE⟩)
  · have hp7 := of_decide_eq_false hg7
    refine WL_no rfl rfl hg7 rfl ?_
    refine WL_no rfl rfl hg7 rfl ?_
    refine WL_no rfl rfl hg7 rfl ?_
    refine WL_no rfl rfl hg7 rfl ?_
    refine WL_no rfl rfl hg7 rfl ?_
    refine WL_q rfl (ev_pick_f rfl hg7 rfl) ?_
    refine WL_q rfl (ev_assign rfl) ?_
    refine WL_nil ?_
    refine thenE_n ?_
    refine W_ret ?_
    refine ret1 rfl rfl ?_
    first | (exact ⟨_, rfl, ⟨fun h => ⟨hp7, of_decide_eq_true h⟩, fun h => decide_eq_true h.2⟩, hE⟩) | (exact ⟨_, rfl, ffI fun h => hp7 h.1, hE⟩)

theorem LF.of {A : Net} {k : Nat} {ps : List (List Int)} (ha : NOk A) (h1 : 1 ≤ k) (h2 : k * A.ends.length ≤ 40) (h3 : ps.length = (edL A.ends).length) (h : ∀ m (_ : m < (edL A.ends).length) (h2 : m < ps.length), IsPerm ps[m] k ∧ ∀ (h3 : m < (edL A.ends).length), StQ (edL A.ends)[m] → ∀ s, s < k → ps[m].getD (ps[m].getD s 0).toNat 0 = (s : Int)) : LF A k ps :=
  ⟨ha, h1, h2, h3, fun m hm => (h m (by omega) hm).1, fun m hm h4 => (h m (by omega) hm).2 h4⟩

theorem st_yes {p : List Int} {s : Nat} (hs : s < p.length) (h2 : p[s].toNat < p.length) (e : ¬ p[p[s].toNat] ≠ (s : Int)) : p.getD (p.getD s 0).toNat 0 = (s : Int) := by
  rw [getD_eq hs, getD_eq h2]; exact Classical.byContradiction e
theorem st_no {p : List Int} {s : Nat} (hs : s < p.length) (h2 : p[s].toNat < p.length) (e : p[p[s].toNat] ≠ (s : Int)) : ¬ p.getD (p.getD s 0).toNat 0 = (s : Int) := by
  rw [getD_eq hs, getD_eq h2]; exact e

theorem pc_splice {xs : List (Int × Int)} {rest : List Value} {e : Int × Int} : ∀ {y : Nat}, y < xs.length → (pairCells xs ++ rest).take (y * 2) ++ [VI e.1, VI e.2] ++ (pairCells xs ++ rest).drop (y * 2 + 2) = pairCells (xs.set y e) ++ rest := by
  induction xs with
  | nil => intro y h; simp at h
  | cons x r ih =>
    intro y h
    cases y with
    | zero => simp [pairCells_cons]
    | succ y =>
      have := ih (y := y) (by simpa using h)
      rw [show (y + 1) * 2 = y * 2 + 1 + 1 by omega, show y * 2 + 1 + 1 + 2 = y * 2 + 2 + 1 + 1 by omega]
      simp only [pairCells_cons, List.cons_append, List.take_succ_cons, List.drop_succ_cons, List.set_cons_succ]
      rw [← this]
theorem Blk.inj9 {w : World} {g : Nat} {E : TypeId} {cs ds : List Value} (h : Blk w g E cs) (k : Blk w g E ds) : cs = ds := by
  have e := Option.some.inj ((show w.heap[g]? = _ from h).symm.trans (show w.heap[g]? = _ from k))
  injection e with e1
  exact List.toArray_inj e1
/-- Rows in one block, each in a block of its own. -/
def NV (l hi : Nat) (w : World) (E T : TypeId) (b : Nat) (vs : List (Option Addr × Nat)) (xss : Ends) : Prop := b < l ∧ Blk w b T ((vs.zip xss).map fun p => rowVal p.1 p.2) ∧ OwnAll pairF 2 l hi w E vs xss
section
variable {l hi b : Nat} {w w' : World} {E T : TypeId} {vs : List (Option Addr × Nat)} {xss : Ends}
theorem NV.ext (h : NV l hi w E T b vs xss) (k : Ext w w') : NV l hi w' E T b vs xss := ⟨h.1, h.2.1.ext k, h.2.2.ext k⟩
theorem NV.keep {G : Nat → Prop} (h : NV l hi w E T b vs xss) (k : Keep G w w') (hb : G b) (hG : ∀ x, l ≤ x → x < hi → G x) : NV l hi w' E T b vs xss := ⟨h.1, h.2.1.keep k hb, h.2.2.keep k hG⟩
theorem NV.sto {g : Nat} {Ts : TypeId} {ds : List Value} (h : NV l hi w E T b vs xss) (k : Sto w w' g Ts ds) (hb : g ≠ b ∧ (g < l ∨ hi ≤ g)) : NV l hi w' E T b vs xss := h.keep k.keep (by show b ≠ g; omega) fun x _ _ => by show x ≠ g; omega
theorem NV.up {hi' : Nat} (h : NV l hi w E T b vs xss) (k : hi ≤ hi') : NV l hi' w E T b vs xss := ⟨h.1, h.2.1, h.2.2.mono (Nat.le_refl _) k⟩
theorem NV.to {yss : Ends} (h : NV l hi w E T b vs xss) (e : xss = yss) : NV l hi w E T b vs yss := e ▸ h
theorem NV.len (h : NV l hi w E T b vs xss) : vs.length = xss.length := h.2.2.len
theorem NV.row (h : NV l hi w E T b vs xss) {x y : Nat} (hx : x < xss.length) (hv : x < vs.length) (hy : y < xss[x].length) : ∃ g rest, vs[x].1 = some ⟨g, 0, none⟩ ∧ l ≤ g ∧ g < hi ∧ Blk w g E (pairCells xss[x] ++ rest) := by
  have o := h.2.2.own x hv hx
  rw [pairF_flat] at o
  obtain ⟨g, rest, ha, hg, hB, _⟩ := o.open (by rw [pairCells_length]; omega)
  exact ⟨g, rest, ha, hg, h.2.2.top x hv _ ha, hB⟩
theorem NV.set (h : NV l hi w E T b vs xss) {x y g : Nat} {e : Int × Int} {rest : List Value} {Ts : TypeId} {ds : List Value} (hx : x < xss.length) (hv : x < vs.length) (hy : y < xss[x].length) (ha : vs[x].1 = some ⟨g, 0, none⟩) (hh : hi ≤ w.heap.size) (S : Sto w w' g Ts ds) (h0 : Blk w g E (pairCells xss[x] ++ rest))
    (hB : Blk w' g E ((pairCells xss[x] ++ rest).take (y * 2) ++ [VI e.1, VI e.2] ++ (pairCells xss[x] ++ rest).drop (y * 2 + 2))) : NV l hi w' E T b vs (xss.set x (xss[x].set y e)) := by
  have o := h.2.2.own x hv hx
  rw [pairF_flat] at o
  obtain ⟨g', rest', ha', hg, hB0, h1, h2, h3, h4⟩ := o.open (by rw [pairCells_length]; omega)
  have eg : g = g' := by rw [ha] at ha'; injection ha' with e; injection e
  subst eg
  have hsame := h0.inj9 hB0
  have hrest : rest = rest' := List.append_cancel_left hsame
  subst hrest
  rw [pc_splice hy] at hB
  have hbg : b ≠ g := by have := h.1; omega
  have hlen : (xss[x].set y e).length = xss[x].length := List.length_set ..
  have o' : Own l w' E 2 vs[x].1 (xss[x].set y e).length vs[x].2 (((xss[x].set y e)).flatMap pairF) := by
    rw [ha, pairF_flat, hlen]
    exact Own.of_front hB hg h1 h2 (by rw [List.length_append, pairCells_length, hlen]; rw [List.length_append, pairCells_length] at h3; exact h3) (by rw [pairCells_length, hlen])
  have st := h.2.2.step hv (k := (show Apd w w' vs[x].1 from S.keep.mono fun i hi9 => by have := hi9.2 _ ha; exact this)) o' (fun q hq => .inl ⟨q, hq, rfl⟩) hh
  rw [show vs.set x (vs[x].1, vs[x].2) = vs from List.set_getElem_self hv] at st
  refine ⟨h.1, ?_, ⟨st.len, fun i h5 h6 => st.own i h5 h6, h.2.2.top, st.sep⟩⟩
  have e9 : ((vs.zip (xss.set x (xss[x].set y e))).map fun p => rowVal p.1 p.2) = (vs.zip xss).map fun p => rowVal p.1 p.2 := by
    refine List.ext_getElem (by simp) fun i h5 h6 => ?_
    simp only [List.getElem_map, List.getElem_zip, rowVal]
    by_cases hq : x = i
    · subst hq; rw [List.getElem_set_self, hlen]
    · rw [List.getElem_set_ne hq]
  rw [e9]
  exact h.2.1.keep S.keep hbg
end

theorem NR.sto3 {α : Type} {f : α → List Value} {sz l hi : Nat} {w w' : World} {E T : TypeId} {b i m j : Nat} {xss : List (List α)} {g : Nat} {Ts : TypeId} {ds : List Value} (h : NR f sz l hi w E T b i m j xss) (k : Sto w w' g Ts ds) (hb : g ≠ b) (hl : g < l ∨ hi ≤ g) : NR f sz l hi w' E T b i m j xss := by
  obtain ⟨vs, h0, h1, h2, h3, h4⟩ := h; exact ⟨vs, h0, h1.keep k.keep (by show b ≠ g; omega), h2.keep k.keep fun q _ _ => by show q ≠ g; omega, h3, h4⟩
def lfZ (A : Net) (k x : Nat) : List (Int × Int) := List.replicate (A.ends.getD (x / k) []).length (0, 0)
def liI (A : Net) (k x : Nat) : Int := A.inputs.getD (x / k) 0
def miI (A : Net) (k N p : Nat) : List Int := (List.range N).map fun x => if x < p then liI A k x else 0
theorem pc_zeros (n : Nat) : (List.replicate n [VI 0, VI 0]).flatten = pairCells (List.replicate n (0, 0)) := by simp [pairCells]
section
variable {A : Net} {k N p : Nat} {ps : List (List Int)}
theorem lfZ_at {i s : Nat} (hs : s < k) (hi : i < A.ends.length) (e : i * k + s = p) : lfZ A k p = List.replicate A.ends[i].length (0, 0) := by
  subst e; unfold lfZ; rw [(divk hs).1, getD_eq hi]
theorem liI_at {i s : Nat} (hs : s < k) (hi : i < A.inputs.length) (e : i * k + s = p) : liI A k p = A.inputs[i] := by
  subst e; unfold liI; rw [(divk hs).1, getD_eq hi]
theorem miI_len : (miI A k N p).length = N := by simp [miI]
theorem miI_zero : miI A k N 0 = List.replicate N 0 := by
  refine List.ext_getElem (by simp [miI]) fun i h1 h2 => ?_
  simp [miI]
theorem miI_put {x : Int} (e : x = liI A k p) : (miI A k N p).set p x = miI A k N (p + 1) := by
  subst e
  refine List.ext_getElem (by simp [miI]) fun i h1 h2 => ?_
  by_cases hj : p = i
  · subst hj; rw [List.getElem_set_self]; simp [miI]
  · rw [List.getElem_set_ne hj]
    simp only [miI, List.getElem_map, List.getElem_range]
    have : i < p ↔ i < p + 1 := by omega
    simp only [this]
theorem miI_full (e : k * A.ends.length = N) : miI A k N N = (liftN A k ps).inputs := by
  subst e
  refine List.map_congr_left fun x hx => ?_
  rw [if_pos (List.mem_range.1 hx)]; rfl
theorem lift_tot (h : LF A k ps) : totN (liftN A k ps) ≤ 1048576 := by
  have hn := lift_ok h
  have h1 : ∀ r ∈ (liftN A k ps).ends, r.length ≤ 6 := hn.six
  have h2 := totL_bd h1
  have h3 := hn.nodes
  have h4 := hn.inLen
  have h5 : (liftN A k ps).ids.length = 0 := rfl
  unfold totN; omega
theorem shp_row {R : Ends} (h : Shp A k R) {v s x : Nat} (hs : s < k) (hv : v < A.ends.length) (e : v * k + s = x) (hx : x < R.length) : R[x].length = A.ends[v].length := by
  subst e
  have := h.2 _ hx
  unfold rowl at this
  rw [getD_eq hx, (divk hs).1, getD_eq hv] at this
  exact this
theorem put2_eq {R : Ends} {x y : Nat} {e : Int × Int} (hx : x < R.length) : R.set x (R[x].set y e) = put2 R x y e := by unfold put2; rw [getD_eq hx]
theorem lfS_step {m v i w j s t x1 x2 : Nat} {R : Ends} (hq : QOk A m v i w j) (hp : (ps.getD m []).getD s 0 = (t : Int)) (h1 : v * k + s = x1) (h2 : w * k + t = x2) :
    put2 (put2 (lfS k ((edL A.ends).getD m (0, 0, 0, 0)) (ps.getD m []) R s) x1 i ((x2 : Int), (j : Int))) x2 j ((x1 : Int), (i : Int)) = lfS k ((edL A.ends).getD m (0, 0, 0, 0)) (ps.getD m []) R (s + 1) := by
  show _ = lfW k ((edL A.ends).getD m (0, 0, 0, 0)) s ((ps.getD m []).getD s 0) (lfS k ((edL A.ends).getD m (0, 0, 0, 0)) (ps.getD m []) R s)
  rw [hp]
  subst h1 h2
  generalize lfS k ((edL A.ends).getD m (0, 0, 0, 0)) (ps.getD m []) R s = R'
  rw [getD_eq hq.lt, hq.eq]
  unfold lfW
  simp only [Int.toNat_natCast, Int.natCast_add, Int.natCast_mul]
end

set_option maxHeartbeats 1000000 in
set_option maxRecDepth 100000 in
theorem coLift_spec {loA hiA : Nat} (nA : NA) (A : Net) (k : Nat) {lops hips : Nat} (aps : Option Addr) (cps : Nat) (ps : List (List Int)) (w : World) (hA : IsNet loA hiA w nA A) (hhiA : hiA ≤ w.heap.size) (hnA : totN A ≤ 1048576) (hps : Intss lops hips w aps cps ps) (hhips : hips ≤ w.heap.size) (hnps : totL ps ≤ 1048576) (hL : LF A k ps) :
    Fn Try.prog 30 #[netV nA A, VI (k : Int), .slice aps ps.length cps] w (fun o9 w' => ∃ h', o9 = netV h' (liftN A k ps) ∧ IsNet w.heap.size w'.heap.size w' h' (liftN A k ps) ∧ totN (liftN A k ps) ≤ 1048576 ∧ Ext w w') := by
  have hqA := totL_len A.ends
  have hmA : totL A.ends + A.ids.length + A.inputs.length ≤ 1048576 := hnA
  have hkA := hL.a
  have hndA := hkA.nodes
  have hinA := hkA.inLen
  have h6 := hkA.six
  have h40 : A.ends.length ≤ 40 := by omega
  have hk1 := hL.k1
  have hkn := hL.kn
  have hkk := Nat.le_mul_of_pos_right k (show 0 < A.ends.length by omega)
  obtain ⟨N9, hN9⟩ : ∃ N9, k * A.ends.length = N9 := ⟨_, rfl⟩
  rw [hN9] at hkn hkk
  have hkm2 : (k : Int) * (A.ends.length : Int) = (N9 : Int) := by rw [← hN9, Int.natCast_mul]
  have hbd := edL_bd h6 h40
  have hE := Ext.refl w
  refine Fn_of Try.func30 rfl rfl (by kernel_rfl) rfl ?_
  refine W_seq ?_
  refine W_region ?_
  refine WL_m rfl (ev_box rfl) ?_
  rintro _ w3 ⟨rfl, hN3⟩
  have hz3 := hN3.size
  replace hE := hE.trans hN3.ext
  replace hA := hA.ext hN3.ext
  replace hps := hps.ext hN3.ext
  have hB3 : Blk w3 _ _ [_, _, _] := hN3.blk
  refine WL_m rfl (ev_alloc zr31) ?_
  rintro _ w6 ⟨rfl, hN6⟩
  have hz6 := hN6.size
  replace hE := hE.trans hN6.ext
  replace hA := hA.ext hN6.ext
  replace hps := hps.ext hN6.ext
  replace hB3 := hB3.ext hN6.ext
  have hB6 : Blk w6 _ _ [_, _, _] := hN6.blk
  refine WL_nil ?_
  refine thenE_n ?_
  refine W_seq ?_
  refine W_region ?_
  refine WL_q rfl (ev_move rfl) ?_
  refine WL_q rfl (ev_fieldAddr fo31_0 rfl) ?_
  refine WL_q rfl (ev_load one29 rfl (hB3.cell rfl)) ?_
  refine WL_q rfl (ev_len Try.underlying29 rfl) ?_
  refine WL_q rfl (ev_mul rfl rfl (by omega)) ?_
  rw [hkm2]
  refine WL_m rfl (ev_call rfl (neEmpty_spec _ _ (by omega))) ?_
  rintro _ w20 ⟨b20, d20, rfl, hx20, hBo20, hBi20, hE20⟩
  have hz20 := hE20.size
  replace hE := hE.trans hE20
  replace hA := hA.ext hE20
  replace hps := hps.ext hE20
  replace hB3 := hB3.ext hE20
  replace hB6 := hB6.ext hE20
  refine WL_m rfl (ev_alloc zr31) ?_
  rintro _ w7 ⟨rfl, hN7⟩
  have hz7 := hN7.size
  replace hE := hE.trans hN7.ext
  replace hA := hA.ext hN7.ext
  replace hps := hps.ext hN7.ext
  replace hB3 := hB3.ext hN7.ext
  replace hB6 := hB6.ext hN7.ext
  replace hBo20 := hBo20.ext hN7.ext
  replace hBi20 := hBi20.ext hN7.ext
  have hB7 : Blk w7 _ _ [_, _, _] := hN7.blk
  refine WL_s (ev_stores sz31 rfl rfl rfl (by simp [Value.oneCell']) hB7 (by simp)) ?_
  rintro _ w1_7 hS1_7
  have hz1_7 := hS1_7.size
  replace hE := hE.sto hS1_7 (by omega)
  replace hA := hA.sto hS1_7 (by omega)
  replace hps := hps.sto hS1_7 (by omega)
  replace hB3 := hB3.sto hS1_7 (by omega)
  replace hB6 := hB6.sto hS1_7 (by omega)
  replace hBo20 := hBo20.sto hS1_7 (by omega)
  replace hBi20 := hBi20.sto hS1_7 (by omega)
  replace hB7 : Blk w1_7 _ _ [_, _, _] := hS1_7.blk
  refine WL_nil ?_
  refine thenE_n ?_
  refine W_seq ?_
  refine W_seq ?_
  refine W_region ?_
  obtain ⟨hx1, hx2, hx3, hx4, hx5⟩ := hx20
  have hR0 : NR pairF 2 w7.heap.size w1_7.heap.size w1_7 61 56 b20 0 0 0 (mixF (lfZ A k) (List.replicate N9 []) 0) := by rw [mixF_zero]; exact NR.made hBo20 (by omega)
  have hBi0 : Blk w1_7 d20 3 ((miI A k N9 0).map VI) := by rw [miI_zero, List.map_replicate]; exact hBi20
  refine WL_q rfl (ev_fieldAddr fo31_0 rfl) ?_
  refine WL_q rfl (ev_load one29 rfl (hB3.cell rfl)) ?_
  refine WL_q rfl (ev_len Try.underlying29 rfl) ?_
  refine WL_q rfl (ev_move rfl) ?_
  refine WL_nil ?_
  refine thenE_n ?_
  refine W_block ?_
  refine W_loopC (G := Nat) [(1, _), (2, _), (3, _), (6, _), (7, _), (22, _), (23, _)] ((Subs.c rfl (Subs.c rfl (Subs.c rfl (Subs.c rfl (Subs.c rfl (Subs.c rfl (Subs.c rfl Subs.n)))))))) (fun i => [(24, VI (i : Int))]) (fun i w' => Lo (w6.heap.size) w1_7 w' ∧ i ≤ A.ends.length ∧ Blk w' w20.heap.size 31 [.slice (some ⟨b20, 0, none⟩) N9 N9, .slice none 0 0, .slice (some ⟨d20, 0, none⟩) N9 N9] ∧ NR pairF 2 w7.heap.size w'.heap.size w' 61 56 b20 (i * k) 0 (i * k) (mixF (lfZ A k) (List.replicate N9 []) (i * k)) ∧ Blk w' d20 3 ((miI A k N9 (i * k)).map VI)) (fun i => A.ends.length - i) 0 ((Subs.c (lkI rfl (by omega)) Subs.n)) (⟨Lo.refl (by omega), ⟨Nat.zero_le _, hB7, by rw [Nat.zero_mul]; exact hR0, by rw [Nat.zero_mul]; exact hBi0⟩⟩) ?_
  rintro i wL0 ⟨hRL0, hi', hB7, hR, hBi⟩
  have hzL0 := hRL0.size
  replace hA := hA.lo hRL0 (by omega)
  replace hps := hps.lo hRL0 (by omega)
  replace hB3 := hB3.lo hRL0 (by omega)
  replace hB6 := hB6.lo hRL0 (by omega)
  replace hE := hE.lo hRL0 (by omega)
  refine W_seq ?_
  refine W_region ?_
  refine WL_q rfl (ev_lss rfl rfl) ?_
  refine WL_nil ?_
  refine thenE_n ?_
  refine W_seq ?_
  refine W_cond rfl (fun hg25 => ?_) (fun hg25 => ?_)
  · have hp25 := of_decide_eq_true hg25
    refine W_skip ?_
    refine thenE_n ?_
    refine W_seq ?_
    refine W_block ?_
    refine W_seq ?_
    refine W_region ?_
    refine WL_q rfl (ev_move rfl) ?_
    have hilt : i < A.ends.length := by omega
    have h6i := h6 _ (List.getElem_mem hilt)
    have hik : (i + 1) * k ≤ N9 := by rw [← hN9, Nat.mul_comm k]; exact Nat.mul_le_mul_right k hilt
    rw [Nat.add_mul, Nat.one_mul] at hik
    have hikc : (i : Int) * (k : Int) = ((i * k : Nat) : Int) := by rw [Int.natCast_mul]
    have hinI : i < A.inputs.length := by omega
    have hl27 : i < A.ends.length := by omega
    have ht27 := totL_le hl27
    obtain ⟨a27, c27, hc27, hr27⟩ := hA.ends.row hl27
    refine WL_q rfl (ev_indexAddr Try.underlying29 sz56 rfl rfl (hA.ends.isSome (by omega)) (by omega) (by omega)) ?_
    refine WL_q rfl (ev_load one56 rfl (hc27)) ?_
    refine WL_q rfl (ev_assign rfl) ?_
    refine WL_q rfl (ev_assign rfl) ?_
    refine WL_nil ?_
    refine thenE_n ?_
    refine W_seq ?_
    refine W_region ?_
    refine WL_q rfl (ev_assign rfl) ?_
    refine WL_nil ?_
    refine thenE_n ?_
    refine W_block ?_
    refine W_loopC (G := Nat) [(1, _), (2, _), (3, _), (6, _), (7, _), (8, _), (9, _), (22, _), (23, _), (24, _)] ((Subs.c rfl (Subs.c rfl (Subs.c rfl (Subs.c rfl (Subs.c rfl (Subs.c rfl (Subs.c rfl (Subs.c rfl (Subs.c rfl (Subs.c rfl Subs.n))))))))))) (fun s => [(10, VI (s : Int))]) (fun s w' => Lo (w6.heap.size) wL0 w' ∧ s ≤ k ∧ Blk w' w20.heap.size 31 [.slice (some ⟨b20, 0, none⟩) N9 N9, .slice none 0 0, .slice (some ⟨d20, 0, none⟩) N9 N9] ∧ NR pairF 2 w7.heap.size w'.heap.size w' 61 56 b20 (i * k + s) 0 (i * k + s) (mixF (lfZ A k) (List.replicate N9 []) (i * k + s)) ∧ Blk w' d20 3 ((miI A k N9 (i * k + s)).map VI)) (fun g => k - g) 0 ((Subs.c rfl Subs.n)) (⟨Lo.refl (by omega), ⟨Nat.zero_le _, hB7, by rw [Nat.add_zero]; exact hR, by rw [Nat.add_zero]; exact hBi⟩⟩) ?_
    rintro s wL2 ⟨hRL2, hs', hB7, hR, hBi⟩
    have hzL2 := hRL2.size
    replace hA := hA.lo hRL2 (by omega)
    replace hps := hps.lo hRL2 (by omega)
    replace hB3 := hB3.lo hRL2 (by omega)
    replace hB6 := hB6.lo hRL2 (by omega)
    replace hr27 := hr27.lo hRL2 (by omega)
    replace hE := hE.lo hRL2 (by omega)
    replace hRL0 := hRL0.lo hRL2 (by omega)
    obtain ⟨p, hp⟩ : ∃ p, i * k + s = p := ⟨_, rfl⟩
    rw [hp] at hR hBi
    have hpe : (i : Int) * (k : Int) + (s : Int) = (p : Int) := by rw [hikc]; omega
    have hmil := miI_len (A := A) (k := k) (N := N9) (p := p)
    refine W_seq ?_
    refine W_seq ?_
    refine W_region ?_
    refine WL_q rfl (ev_move rfl) ?_
    refine WL_q rfl (ev_move rfl) ?_
    refine WL_q rfl (ev_lss rfl rfl) ?_
    refine WL_nil ?_
    refine thenE_n ?_
    refine W_cond rfl (fun hg31 => ?_) (fun hg31 => ?_)
    · have hp31 := of_decide_eq_true hg31
      refine W_skip ?_
      refine thenE_n ?_
      refine W_seq ?_
      refine W_block ?_
      refine W_seq ?_
      refine W_drawZ 11 wL2.heap.size wL2.heap.size 0 0 (fun w' => True) [(0, true), (1, true), (2, true), (3, true), (4, true), (5, true), (6, true), (7, true), (8, true), (9, false), (10, true), (11, false)] mixed (by kernel_rfl) rfl (by kernel_rfl) (fun _ _ => trivial) ?_
      intro wd8 hEd8 hzd8
      replace hE := hE.trans hEd8
      replace hRL0 := hRL0.trans hEd8
      replace hRL2 := hRL2.trans hEd8
      replace hA := hA.ext hEd8
      replace hps := hps.ext hEd8
      replace hB3 := hB3.ext hEd8
      replace hB6 := hB6.ext hEd8
      replace hr27 := hr27.ext hEd8
      replace hB7 := hB7.ext hEd8
      replace hR := hR.ext hEd8
      replace hBi := hBi.ext hEd8
      have hslt : s < k := by omega
      have hplt : p < N9 := by omega
      replace hR := hR.fwd (i' := p) (m' := 0) (j' := p + 1) (Nat.le_refl _) (by omega)
      obtain ⟨vs, hbl, hBk, hOA0, hvm, hvj⟩ := hR
      have hvl := hOA0.len
      have hxl : (mixF (lfZ A k) (List.replicate N9 []) p).length = N9 := by simp [mixF_len]
      have hiv : p < vs.length := by omega
      have hDd8 := (Rg.refl : Rg wL2.heap.size wL2.heap.size 0 0 wd8 wd8)
      refine PZ_q rfl rfl rfl (fun wq hq => ev_fieldAddr fo31_0 rfl) ?_
      refine PZ_q rfl rfl rfl (fun wq hq => ev_load one29 rfl ((hB7.rg hq.1 (by omega)).cell rfl)) ?_
      refine PZ_q rfl rfl rfl (fun wq hq => ev_move rfl) ?_
      refine PZ_q rfl rfl rfl (fun wq hq => ev_move rfl) ?_
      refine PZ_q rfl rfl rfl (fun wq hq => ev_mul rfl rfl (by omega)) ?_
      refine PZ_q rfl rfl rfl (fun wq hq => ev_move rfl) ?_
      refine PZ_q rfl rfl rfl (fun wq hq => ev_add rfl rfl (by omega)) ?_
      rw [hpe]
      refine PZ_q rfl rfl rfl (fun wq hq => ev_move rfl) ?_
      refine PZ_q rfl rfl rfl (fun wq hq => ev_len Try.underlying56 rfl) ?_
      refine PZ_m rfl rfl rfl (ev_make2N Try.underlying56 el61 rfl rfl (by omega) (by omega)) ?_
      rintro _ w43 ⟨rfl, hN43⟩
      have hz43 := hN43.size
      replace hE := hE.trans hN43.ext
      replace hRL0 := hRL0.trans hN43.ext
      replace hRL2 := hRL2.trans hN43.ext
      replace hDd8 := hDd8.trans hN43.ext
      have hB43 := hN43.blk
      have hOn := Own.of_new (n := A.ends[i].length) (sz := 2) hN43 (by simp) (by unfold maxLen; omega)
      refine ⟨⟨hDd8, trivial⟩, ?_⟩
      refine PZ_q rfl rfl rfl (fun wq hq => ev_indexAddr Try.underlying29 sz56 rfl rfl rfl (by omega) (by omega)) ?_
      replace hA := hA.rg hDd8 (by omega)
      replace hps := hps.rg hDd8 (by omega)
      replace hB3 := hB3.rg hDd8 (by omega)
      replace hB6 := hB6.rg hDd8 (by omega)
      replace hr27 := hr27.rg hDd8 (by omega)
      replace hB7 := hB7.rg hDd8 (by omega)
      replace hBi := hBi.rg hDd8 (by omega)
      replace hBk := hBk.rg hDd8 (by omega)
      refine PZ_z rfl (ev_store sz56 rfl rfl rfl hBk (by simp; omega)) ?_
      rintro _ w8_11 hS8_11
      have hz8_11 := hS8_11.size
      replace hE := hE.sto hS8_11 (by omega)
      replace hRL0 := hRL0.sto hS8_11 (by omega)
      replace hRL2 := hRL2.sto hS8_11 (by omega)
      replace hA := hA.sto hS8_11 (by omega)
      replace hps := hps.sto hS8_11 (by omega)
      replace hB3 := hB3.sto hS8_11 (by omega)
      replace hB6 := hB6.sto hS8_11 (by omega)
      replace hr27 := hr27.sto hS8_11 (by omega)
      replace hB7 := hB7.sto hS8_11 (by omega)
      replace hBi := hBi.sto hS8_11 (by omega)
      replace hBk := hS8_11.blk
      have hR2 := NR.put (ys := List.replicate A.ends[i].length (0, 0)) hbl hOA0 (by omega) hiv hvm (by omega) hvj (by omega) (Keep.mono hN43.ext fun b9 hb9 => hb9.1) (by rw [pairF_flat, ← pc_zeros]; exact hOn.mono (by omega)) (by simp) (fun q hq => .inr (by cases hq; exact Nat.le_refl _)) hS8_11 (by omega) hBk
      replace hR2 := (hR2.any (i' := p + 1)).to (show _ = (mixF (lfZ A k) (List.replicate N9 []) (p + 1)) by rw [← lfZ_at hslt hilt hp]; exact mixF_set (f := lfZ A k) (by simpa using hplt))
      refine PW_nil ?_
      refine thenE_n ?_
      refine W_drawK (d20) (fun w' => True) [(0, true), (1, true), (2, true), (3, true), (4, true), (5, true), (6, true), (7, true), (8, true), (9, true), (10, true), (11, true), (12, true), (13, false)] mixed (by kernel_rfl) rfl (by kernel_rfl) (fun _ _ => trivial) ?_
      intro wd9 hEd9 hzd9
      replace hE := hE.trans hEd9
      replace hRL0 := hRL0.trans hEd9
      replace hRL2 := hRL2.trans hEd9
      replace hA := hA.ext hEd9
      replace hps := hps.ext hEd9
      replace hB3 := hB3.ext hEd9
      replace hB6 := hB6.ext hEd9
      replace hr27 := hr27.ext hEd9
      replace hB7 := hB7.ext hEd9
      replace hBi := hBi.ext hEd9
      replace hBk := hBk.ext hEd9
      have hDd9 := KX.refl (d20) wd9
      refine PW_q rfl rfl (fun wq hq => ev_fieldAddr fo31_2 rfl) ?_
      refine PW_q rfl rfl (fun wq hq => ev_load one23 rfl ((hB7.kx hq.1 (by omega)).cell rfl)) ?_
      refine PW_q rfl rfl (fun wq hq => ev_move rfl) ?_
      refine PW_q rfl rfl (fun wq hq => ev_move rfl) ?_
      refine PW_q rfl rfl (fun wq hq => ev_mul rfl rfl (by omega)) ?_
      refine PW_q rfl rfl (fun wq hq => ev_move rfl) ?_
      refine PW_q rfl rfl (fun wq hq => ev_add rfl rfl (by omega)) ?_
      rw [hpe]
      refine PW_q rfl rfl (fun wq hq => ev_fieldAddr fo31_2 rfl) ?_
      refine PW_q rfl rfl (fun wq hq => ev_load one23 rfl ((hB3.kx hq.1 (by omega)).cell rfl)) ?_
      refine PW_q rfl rfl (fun wq hq => ev_move rfl) ?_
      refine PW_q rfl rfl (fun wq hq => ev_indexAddr Try.underlying23 sz3 rfl rfl (hA.inputs.isSome (by omega)) (by omega) (by omega)) ?_
      refine PW_q rfl rfl (fun wq hq => ev_load one3 rfl ((hA.inputs.kx hq.1 (by omega)).cellJ (i := i) (j := Int.toNat ((i : Nat) : Int)) (by omega) (by omega))) ?_
      refine PW_q rfl rfl (fun wq hq => ev_indexAddr Try.underlying23 sz3 rfl rfl rfl (by omega) (by omega)) ?_
      refine PW_s rfl (ev_store sz3 rfl rfl rfl hBi (by simp; omega)) ?_
      rintro _ w9_13 hS9_13
      have hz9_13 := hS9_13.size
      replace hE := hE.sto hS9_13 (by omega)
      replace hRL0 := hRL0.sto hS9_13 (by omega)
      replace hRL2 := hRL2.sto hS9_13 (by omega)
      replace hDd9 := hDd9.sto hS9_13 (by omega)
      replace hBi := hS9_13.blk
      replace hBi := iset (i := p) (by omega) hBi
      rw [miI_put (by rw [liI_at hslt hinI hp])] at hBi
      have hR := (hR2.ext hEd9).sto3 hS9_13 (by omega) (by omega)
      refine ⟨⟨hDd9, trivial⟩, ?_⟩
      replace hA := hA.kx hDd9 (by omega)
      replace hps := hps.kx hDd9 (by omega)
      replace hB3 := hB3.kx hDd9 (by omega)
      replace hB6 := hB6.kx hDd9 (by omega)
      replace hr27 := hr27.kx hDd9 (by omega)
      replace hB7 := hB7.kx hDd9 (by omega)
      replace hBk := hBk.kx hDd9 (by omega)
      refine PW_nil ?_
      refine blockE_n ?_
      refine thenE_n ?_
      refine W_region ?_
      refine WL_q rfl (ev_move rfl) ?_
      refine WL_q rfl (ev_add rfl rfl (by omega)) ?_
      refine WL_q rfl (ev_assign rfl) ?_
      refine WL_nil ?_
      refine thenE_n ?_
      exact ⟨s + 1, (Subs.c rfl (Subs.c rfl (Subs.c rfl (Subs.c rfl (Subs.c rfl (Subs.c rfl (Subs.c rfl (Subs.c rfl (Subs.c rfl (Subs.c rfl Subs.n)))))))))), (Subs.c (lkI rfl (by omega)) Subs.n), ⟨hRL2, ⟨by omega, hB7, by rw [← Nat.add_assoc, hp]; exact hR.up (by omega), by rw [← Nat.add_assoc, hp]; exact hBi⟩⟩, by first | omega | (dsimp only; omega)⟩
    · have hp31 := of_decide_eq_false hg31
      refine W_exit ?_
      refine thenE_x ?_
      refine thenE_x ?_
      refine blockE_hit ?_
      refine blockE_n ?_
      refine thenE_n ?_
      refine W_region ?_
      refine WL_q rfl (ev_add rfl rfl (by omega)) ?_
      refine WL_q rfl (ev_move rfl) ?_
      refine WL_nil ?_
      refine thenE_n ?_
      have hs9 : s = k := by omega
      rw [← hp, hs9, show i * k + k = (i + 1) * k by rw [Nat.add_mul, Nat.one_mul]] at hR hBi
      exact ⟨i + 1, (Subs.c rfl (Subs.c rfl (Subs.c rfl (Subs.c rfl (Subs.c rfl (Subs.c rfl (Subs.c rfl Subs.n))))))), (Subs.c (lkI rfl (by omega)) Subs.n), ⟨hRL0, ⟨by omega, hB7, hR, hBi⟩⟩, by first | omega | (dsimp only; omega)⟩
  · have hp25 := of_decide_eq_false hg25
    refine W_exit ?_
    refine thenE_x ?_
    refine thenE_x ?_
    refine blockE_hit ?_
    refine thenE_n ?_
    refine W_seq ?_
    refine W_seq ?_
    refine W_region ?_
    refine WL_q rfl (ev_loads st31 sz31 rfl (cellsB hB3) rfl) ?_
    refine WL_m rfl (ev_call rfl (neEdges_spec _ A _ hA (by omega) (by omega) (by assumption) (by omega))) ?_
    rintro _ w60 ⟨a60, c60, rfl, hI60, hE60⟩
    have hz60 := hE60.size
    replace hE := hE.trans hE60
    replace hA := hA.ext hE60
    replace hps := hps.ext hE60
    replace hB3 := hB3.ext hE60
    replace hB6 := hB6.ext hE60
    replace hB7 := hB7.ext hE60
    replace hR := hR.ext hE60
    replace hBi := hBi.ext hE60
    have hi9 : i = A.ends.length := by omega
    have e9 : i * k = N9 := by rw [hi9, Nat.mul_comm]; exact hN9
    rw [e9] at hR hBi
    replace hR := hR.to (show _ = lfM A k ps 0 by rw [mixF_full (by simp), List.length_replicate, ← hN9]; rfl)
    rw [miI_full (ps := ps) hN9] at hBi
    obtain ⟨vs, hbl, hBk0, hOA0, hvm0, hvj0⟩ := hR
    have hV : NV w7.heap.size wL0.heap.size w60 61 56 b20 vs (lfM A k ps 0) := ⟨hbl, hBk0, hOA0⟩
    have hql := qR_len (edL A.ends)
    refine WL_q rfl (ev_len Try.underlying26 rfl) ?_
    refine WL_q rfl (ev_move rfl) ?_
    refine WL_nil ?_
    refine thenE_n ?_
    refine W_block ?_
    refine W_loopC (G := Nat) [(1, _), (2, _), (6, _), (7, _), (60, _), (61, _)] ((Subs.c rfl (Subs.c rfl (Subs.c rfl (Subs.c rfl (Subs.c rfl (Subs.c rfl Subs.n))))))) (fun m => [(62, VI (m : Int))]) (fun m w' => Rg w7.heap.size wL0.heap.size 0 0 w60 w' ∧ m ≤ (edL A.ends).length ∧ Blk w' w20.heap.size 31 [.slice (some ⟨b20, 0, none⟩) N9 N9, .slice none 0 0, .slice (some ⟨d20, 0, none⟩) N9 N9] ∧ NV w7.heap.size wL0.heap.size w' 61 56 b20 vs (lfM A k ps m) ∧ Blk w' d20 3 ((liftN A k ps).inputs.map VI)) (fun g => (edL A.ends).length - g) 0 ((Subs.c (lkI rfl (by omega)) Subs.n)) (⟨Rg.refl, ⟨Nat.zero_le _, hB7, hV, hBi⟩⟩) ?_
    rintro m wL4 ⟨hRL4, hm', hB7, hV, hBi⟩
    have hzL4 := hRL4.size
    replace hA := hA.rg hRL4 (by omega)
    replace hps := hps.rg hRL4 (by omega)
    replace hB3 := hB3.rg hRL4 (by omega)
    replace hB6 := hB6.rg hRL4 (by omega)
    replace hI60 := hI60.rg hRL4 (by omega)
    replace hE := hE.rg hRL4 (by omega)
    refine W_seq ?_
    refine W_region ?_
    refine WL_q rfl (ev_lss rfl rfl) ?_
    refine WL_nil ?_
    refine thenE_n ?_
    refine W_seq ?_
    refine W_cond rfl (fun hg63 => ?_) (fun hg63 => ?_)
    · have hp63 := of_decide_eq_true hg63
      refine W_skip ?_
      refine thenE_n ?_
      refine W_seq ?_
      refine W_block ?_
      refine W_seq ?_
      refine W_region ?_
      refine WL_q rfl (ev_move rfl) ?_
      have hlm : m < (edL A.ends).length := by omega
      have hlps : m < ps.length := by rw [hL.len]; exact hlm
      obtain ⟨v9, i9, w9, j9, hq⟩ := qok hkA hlm
      have hpm := hL.perm m hlps
      have hpl := hpm.1
      have hsh0 := lfM_shp (A := A) (k := k) (perms := ps) m
      have hl65 : m < (qR (edL A.ends)).length := by omega
      have ht65 := totL_le hl65
      obtain ⟨a65, c65, hc65, hr65⟩ := hI60.row hl65
      refine WL_q rfl (ev_indexAddr Try.underlying26 sz23 rfl rfl (hI60.isSome (by omega)) (by omega) (by omega)) ?_
      refine WL_q rfl (ev_load one23 rfl (hc65)) ?_
      refine WL_q rfl (ev_assign rfl) ?_
      have hqa : (qR (edL A.ends))[m]'(by omega) = ([(v9 : Int), (i9 : Int), (w9 : Int), (j9 : Int)] : List Int) := by rw [qR_at (by omega) hlm, hq.eq]; rfl
      rw [hqa] at hr65 ⊢
      refine WL_q rfl (ev_assign rfl) ?_
      refine WL_nil ?_
      refine thenE_n ?_
      refine W_seq ?_
      refine W_region ?_
      refine WL_q rfl (ev_move rfl) ?_
      refine WL_q rfl (ev_move rfl) ?_
      have hl69 : m < ps.length := by omega
      have ht69 := totL_le hl69
      obtain ⟨a69, c69, hc69, hr69⟩ := hps.row hl69
      refine WL_q rfl (ev_indexAddr Try.underlying26 sz23 rfl rfl (hps.isSome (by omega)) (by omega) (by omega)) ?_
      refine WL_q rfl (ev_load one23 rfl (hc69)) ?_
      refine WL_q rfl (ev_len Try.underlying23 rfl) ?_
      refine WL_q rfl (ev_move rfl) ?_
      refine WL_nil ?_
      refine thenE_n ?_
      refine W_block ?_
      refine W_loopC (G := Nat) [(1, _), (2, _), (6, _), (7, _), (12, _), (60, _), (61, _), (62, _), (70, _), (71, _)] ((Subs.c rfl (Subs.c rfl (Subs.c rfl (Subs.c rfl (Subs.c rfl (Subs.c rfl (Subs.c rfl (Subs.c rfl (Subs.c rfl (Subs.c rfl Subs.n))))))))))) (fun s => [(72, VI (s : Int))]) (fun s w' => Rg w7.heap.size wL0.heap.size 0 0 wL4 w' ∧ s ≤ ps[m].length ∧ Blk w' w20.heap.size 31 [.slice (some ⟨b20, 0, none⟩) N9 N9, .slice none 0 0, .slice (some ⟨d20, 0, none⟩) N9 N9] ∧ NV w7.heap.size wL0.heap.size w' 61 56 b20 vs (lfS k ((edL A.ends).getD m (0, 0, 0, 0)) (ps.getD m []) (lfM A k ps m) s) ∧ Blk w' d20 3 ((liftN A k ps).inputs.map VI)) (fun g => ps[m].length - g) 0 ((Subs.c (lkI rfl (by omega)) Subs.n)) (⟨Rg.refl, ⟨Nat.zero_le _, hB7, hV, hBi⟩⟩) ?_
      rintro s wL6 ⟨hRL6, hs', hB7, hV, hBi⟩
      have hzL6 := hRL6.size
      replace hA := hA.rg hRL6 (by omega)
      replace hps := hps.rg hRL6 (by omega)
      replace hB3 := hB3.rg hRL6 (by omega)
      replace hB6 := hB6.rg hRL6 (by omega)
      replace hI60 := hI60.rg hRL6 (by omega)
      replace hr65 := hr65.rg hRL6 (by omega)
      replace hr69 := hr69.rg hRL6 (by omega)
      replace hE := hE.rg hRL6 (by omega)
      replace hRL4 := hRL4.rg hRL6 (by omega)
      refine W_seq ?_
      refine W_region ?_
      refine WL_q rfl (ev_lss rfl rfl) ?_
      refine WL_nil ?_
      refine thenE_n ?_
      refine W_seq ?_
      refine W_cond rfl (fun hg73 => ?_) (fun hg73 => ?_)
      · have hp73 := of_decide_eq_true hg73
        refine W_skip ?_
        refine thenE_n ?_
        refine W_seq ?_
        refine W_block ?_
        refine W_seq ?_
        refine W_region ?_
        refine WL_q rfl (ev_move rfl) ?_
        have hsl : s < ps[m].length := by omega
        have hslk : s < k := by omega
        obtain ⟨hsl2, hg1, hg2, hg3⟩ := pget hpm hslk
        obtain ⟨t9, ht9⟩ : ∃ t9 : Nat, ps[m][s] = (t9 : Int) := ⟨ps[m][s].toNat, by omega⟩
        have htk : t9 < k := by omega
        have hsh := lfS_shp (q := ((edL A.ends).getD m (0, 0, 0, 0))) (p := (ps.getD m [])) hsh0 s
        obtain ⟨x1, hx1⟩ : ∃ x1, v9 * k + s = x1 := ⟨_, rfl⟩
        obtain ⟨x2, hx2⟩ : ∃ x2, w9 * k + t9 = x2 := ⟨_, rfl⟩
        have hm1 : (v9 : Int) * (k : Int) = ((v9 * k : Nat) : Int) := by rw [Int.natCast_mul]
        have hm2 : (w9 : Int) * (k : Int) = ((w9 * k : Nat) : Int) := by rw [Int.natCast_mul]
        have hx1e : (v9 : Int) * (k : Int) + (s : Int) = (x1 : Int) := by rw [hm1]; omega
        have hx2e : (w9 : Int) * (k : Int) + (t9 : Int) = (x2 : Int) := by rw [hm2]; omega
        have hx1l : x1 < N9 := by rw [← hx1, ← hN9]; exact ltk hq.hv hslk
        have hx2l : x2 < N9 := by rw [← hx2, ← hN9]; exact ltk hq.hw htk
        have hv9l := hq.hv
        have hw9l := hq.hw
        have hi9l := hq.hi
        have hj9l := hq.hj
        have hsx1 : x1 < (lfS k ((edL A.ends).getD m (0, 0, 0, 0)) (ps.getD m []) (lfM A k ps m) s).length := by rw [hsh.1, hN9]; omega
        have hsx2 : x2 < (lfS k ((edL A.ends).getD m (0, 0, 0, 0)) (ps.getD m []) (lfM A k ps m) s).length := by rw [hsh.1, hN9]; omega
        have hrr1 := shp_row hsh hslk hv9l hx1 hsx1
        have hrr2 := shp_row hsh htk hw9l hx2 hsx2
        have hr4l : ([(v9 : Int), (i9 : Int), (w9 : Int), (j9 : Int)] : List Int).length = 4 := rfl
        refine WL_q rfl (ev_indexAddr Try.underlying23 sz3 rfl rfl (hr69.isSome (by omega)) (by omega) (by omega)) ?_
        refine WL_q rfl (ev_load one3 rfl (hr69.cell (i := s) (by omega))) ?_
        rw [ht9]
        refine WL_q rfl (ev_assign rfl) ?_
        have hrw1 : i9 < ((lfS k ((edL A.ends).getD m (0, 0, 0, 0)) (ps.getD m []) (lfM A k ps m) s)[x1]).length := by rw [hrr1]; exact hi9l
        have hiv1 : x1 < vs.length := by have := hV.len; omega
        obtain ⟨g1, rest1, hg1a, hg1l, hg1h, hBr1⟩ := hV.row hsx1 hiv1 (y := i9) hrw1
        have hBk1 := hV.2.1
        have e81 := rowv_at9 hiv1 hsx1
        rw [hg1a] at e81
        refine WL_q rfl (ev_assign rfl) ?_
        refine WL_nil ?_
        refine thenE_n ?_
        refine W_seq ?_
        refine W_drawK (g1) (fun w' => True) [(0, true), (1, true), (2, true), (3, true), (4, true), (5, true), (6, true), (7, true), (8, true), (9, true), (10, true), (11, true), (12, true), (13, true), (14, true), (15, true), (16, true), (17, true), (18, true), (19, true), (20, true), (21, true), (22, true), (23, true), (24, true), (25, true), (26, false)] mixed (by kernel_rfl) rfl (by kernel_rfl) (fun _ _ => trivial) ?_
        intro wd17 hEd17 hzd17
        replace hE := hE.trans hEd17
        replace hRL4 := hRL4.trans hEd17
        replace hRL6 := hRL6.trans hEd17
        replace hA := hA.ext hEd17
        replace hps := hps.ext hEd17
        replace hB3 := hB3.ext hEd17
        replace hB6 := hB6.ext hEd17
        replace hI60 := hI60.ext hEd17
        replace hr65 := hr65.ext hEd17
        replace hr69 := hr69.ext hEd17
        replace hB7 := hB7.ext hEd17
        replace hBi := hBi.ext hEd17
        replace hBk1 := hBk1.ext hEd17
        replace hBr1 := hBr1.ext hEd17
        have hV1_0 := hV.ext hEd17
        have hBr1_0 := hBr1
        have hDd17 := KX.refl (g1) wd17
        refine PW_q rfl rfl (fun wq hq => ev_fieldAddr fo31_0 rfl) ?_
        refine PW_q rfl rfl (fun wq hq => ev_load one29 rfl ((hB7.kx hq.1 (by omega)).cell rfl)) ?_
        refine PW_q rfl rfl (fun wq hq => ev_move rfl) ?_
        refine PW_q rfl rfl (fun wq hq => ev_indexAddr Try.underlying23 sz3 rfl rfl (hr65.isSome (by omega)) (by omega) (by omega)) ?_
        refine PW_q rfl rfl (fun wq hq => ev_load one3 rfl ((hr65.kx hq.1 (by omega)).cellJ (i := 0) (j := Int.toNat ((0 : Nat) : Int)) (by omega) (by omega))) ?_
        rw [show ([(v9 : Int), (i9 : Int), (w9 : Int), (j9 : Int)] : List Int)[0] = (v9 : Int) from rfl]
        refine PW_q rfl rfl (fun wq hq => ev_move rfl) ?_
        refine PW_q rfl rfl (fun wq hq => ev_mul rfl rfl (by omega)) ?_
        refine PW_q rfl rfl (fun wq hq => ev_move rfl) ?_
        refine PW_q rfl rfl (fun wq hq => ev_add rfl rfl (by omega)) ?_
        rw [hx1e]
        refine PW_q rfl rfl (fun wq hq => ev_indexAddr Try.underlying29 sz56 rfl rfl rfl (by omega) (by omega)) ?_
        refine PW_q rfl rfl (fun wq hq => ev_load one56 rfl (hq.1.cell' (hBk1.cellAt e81 (by simp)) (by omega))) ?_
        refine PW_q rfl rfl (fun wq hq => ev_move rfl) ?_
        refine PW_q rfl rfl (fun wq hq => ev_indexAddr Try.underlying23 sz3 rfl rfl (hr65.isSome (by omega)) (by omega) (by omega)) ?_
        refine PW_q rfl rfl (fun wq hq => ev_load one3 rfl ((hr65.kx hq.1 (by omega)).cellJ (i := 1) (j := Int.toNat ((1 : Nat) : Int)) (by omega) (by omega))) ?_
        rw [show ([(v9 : Int), (i9 : Int), (w9 : Int), (j9 : Int)] : List Int)[1] = (i9 : Int) from rfl]
        refine PW_q rfl rfl (fun wq hq => ev_move rfl) ?_
        refine PW_q rfl rfl (fun wq hq => ev_indexAddr Try.underlying23 sz3 rfl rfl (hr65.isSome (by omega)) (by omega) (by omega)) ?_
        refine PW_q rfl rfl (fun wq hq => ev_load one3 rfl ((hr65.kx hq.1 (by omega)).cellJ (i := 2) (j := Int.toNat ((2 : Nat) : Int)) (by omega) (by omega))) ?_
        rw [show ([(v9 : Int), (i9 : Int), (w9 : Int), (j9 : Int)] : List Int)[2] = (w9 : Int) from rfl]
        refine PW_q rfl rfl (fun wq hq => ev_move rfl) ?_
        refine PW_q rfl rfl (fun wq hq => ev_mul rfl rfl (by omega)) ?_
        refine PW_q rfl rfl (fun wq hq => ev_move rfl) ?_
        refine PW_q rfl rfl (fun wq hq => ev_add rfl rfl (by omega)) ?_
        rw [hx2e]
        refine PW_q rfl rfl (fun wq hq => ev_move rfl) ?_
        refine PW_q rfl rfl (fun wq hq => ev_indexAddr Try.underlying23 sz3 rfl rfl (hr65.isSome (by omega)) (by omega) (by omega)) ?_
        refine PW_q rfl rfl (fun wq hq => ev_load one3 rfl ((hr65.kx hq.1 (by omega)).cellJ (i := 3) (j := Int.toNat ((3 : Nat) : Int)) (by omega) (by omega))) ?_
        rw [show ([(v9 : Int), (i9 : Int), (w9 : Int), (j9 : Int)] : List Int)[3] = (j9 : Int) from rfl]
        refine PW_q rfl rfl (fun wq hq => ev_build2 sn61_2 rfl rfl rfl rfl) ?_
        refine PW_q rfl rfl (fun wq hq => ev_indexAddr Try.underlying56 sz61 rfl rfl rfl (by omega) (by omega)) ?_
        refine PW_s rfl (ev_stores sz61 rfl rfl rfl (by simp [Value.oneCell']) hBr1 (by rw [List.length_append, pairCells_length]; show _ + 2 ≤ _; omega)) ?_
        rintro _ w17_26 hS17_26
        have hz17_26 := hS17_26.size
        replace hE := hE.sto hS17_26 (by omega)
        replace hRL4 := hRL4.sto hS17_26 (by omega)
        replace hRL6 := hRL6.sto hS17_26 (by omega)
        replace hDd17 := hDd17.sto hS17_26 (by omega)
        replace hBr1 := hS17_26.blk
        have hV1 := hV1_0.set (e := ((x2 : Int), (j9 : Int))) hsx1 hiv1 hrw1 hg1a (by omega) hS17_26 hBr1_0 (by simpa using hBr1)
        have hsx3 : x2 < ((lfS k ((edL A.ends).getD m (0, 0, 0, 0)) (ps.getD m []) (lfM A k ps m) s).set x1 ((lfS k ((edL A.ends).getD m (0, 0, 0, 0)) (ps.getD m []) (lfM A k ps m) s)[x1].set i9 ((x2 : Int), (j9 : Int)))).length := by rw [List.length_set]; exact hsx2
        have hrw2 : j9 < (((lfS k ((edL A.ends).getD m (0, 0, 0, 0)) (ps.getD m []) (lfM A k ps m) s).set x1 ((lfS k ((edL A.ends).getD m (0, 0, 0, 0)) (ps.getD m []) (lfM A k ps m) s)[x1].set i9 ((x2 : Int), (j9 : Int))))[x2]).length := by (by_cases e9 : x1 = x2; (subst e9; rw [List.getElem_set_self, List.length_set, hrr2]; exact hj9l); (rw [List.getElem_set_ne e9, hrr2]; exact hj9l))
        have hiv2 : x2 < vs.length := by have := hV1.len; omega
        obtain ⟨g2, rest2, hg2a, hg2l, hg2h, hBr2⟩ := hV1.row hsx3 hiv2 (y := j9) hrw2
        have hBk2 := hV1.2.1
        have e82 := rowv_at9 hiv2 hsx3
        rw [hg2a] at e82
        refine ⟨⟨hDd17, trivial⟩, ?_⟩
        replace hA := hA.kx hDd17 (by omega)
        replace hps := hps.kx hDd17 (by omega)
        replace hB3 := hB3.kx hDd17 (by omega)
        replace hB6 := hB6.kx hDd17 (by omega)
        replace hI60 := hI60.kx hDd17 (by omega)
        replace hr65 := hr65.kx hDd17 (by omega)
        replace hr69 := hr69.kx hDd17 (by omega)
        replace hB7 := hB7.kx hDd17 (by omega)
        replace hBi := hBi.kx hDd17 (by omega)
        replace hBk1 := hBk1.kx hDd17 (by omega)
        refine PW_nil ?_
        refine thenE_n ?_
        refine W_drawK (g2) (fun w' => True) [(0, true), (1, true), (2, true), (3, true), (4, true), (5, true), (6, true), (7, true), (8, true), (9, true), (10, true), (11, true), (12, true), (13, true), (14, true), (15, true), (16, true), (17, true), (18, true), (19, true), (20, true), (21, true), (22, true), (23, true), (24, true), (25, true), (26, false)] mixed (by kernel_rfl) rfl (by kernel_rfl) (fun _ _ => trivial) ?_
        intro wd18 hEd18 hzd18
        replace hE := hE.trans hEd18
        replace hRL4 := hRL4.trans hEd18
        replace hRL6 := hRL6.trans hEd18
        replace hA := hA.ext hEd18
        replace hps := hps.ext hEd18
        replace hB3 := hB3.ext hEd18
        replace hB6 := hB6.ext hEd18
        replace hI60 := hI60.ext hEd18
        replace hr65 := hr65.ext hEd18
        replace hr69 := hr69.ext hEd18
        replace hB7 := hB7.ext hEd18
        replace hBi := hBi.ext hEd18
        replace hBk1 := hBk1.ext hEd18
        replace hBr1 := hBr1.ext hEd18
        replace hBk2 := hBk2.ext hEd18
        replace hBr2 := hBr2.ext hEd18
        have hV2_0 := hV1.ext hEd18
        have hBr2_0 := hBr2
        have hDd18 := KX.refl (g2) wd18
        refine PW_q rfl rfl (fun wq hq => ev_fieldAddr fo31_0 rfl) ?_
        refine PW_q rfl rfl (fun wq hq => ev_load one29 rfl ((hB7.kx hq.1 (by omega)).cell rfl)) ?_
        refine PW_q rfl rfl (fun wq hq => ev_move rfl) ?_
        refine PW_q rfl rfl (fun wq hq => ev_indexAddr Try.underlying23 sz3 rfl rfl (hr65.isSome (by omega)) (by omega) (by omega)) ?_
        refine PW_q rfl rfl (fun wq hq => ev_load one3 rfl ((hr65.kx hq.1 (by omega)).cellJ (i := 2) (j := Int.toNat ((2 : Nat) : Int)) (by omega) (by omega))) ?_
        rw [show ([(v9 : Int), (i9 : Int), (w9 : Int), (j9 : Int)] : List Int)[2] = (w9 : Int) from rfl]
        refine PW_q rfl rfl (fun wq hq => ev_move rfl) ?_
        refine PW_q rfl rfl (fun wq hq => ev_mul rfl rfl (by omega)) ?_
        refine PW_q rfl rfl (fun wq hq => ev_move rfl) ?_
        refine PW_q rfl rfl (fun wq hq => ev_add rfl rfl (by omega)) ?_
        rw [hx2e]
        refine PW_q rfl rfl (fun wq hq => ev_indexAddr Try.underlying29 sz56 rfl rfl rfl (by omega) (by omega)) ?_
        refine PW_q rfl rfl (fun wq hq => ev_load one56 rfl (hq.1.cell' (hBk2.cellAt e82 (by simp)) (by omega))) ?_
        refine PW_q rfl rfl (fun wq hq => ev_move rfl) ?_
        refine PW_q rfl rfl (fun wq hq => ev_indexAddr Try.underlying23 sz3 rfl rfl (hr65.isSome (by omega)) (by omega) (by omega)) ?_
        refine PW_q rfl rfl (fun wq hq => ev_load one3 rfl ((hr65.kx hq.1 (by omega)).cellJ (i := 3) (j := Int.toNat ((3 : Nat) : Int)) (by omega) (by omega))) ?_
        rw [show ([(v9 : Int), (i9 : Int), (w9 : Int), (j9 : Int)] : List Int)[3] = (j9 : Int) from rfl]
        refine PW_q rfl rfl (fun wq hq => ev_move rfl) ?_
        refine PW_q rfl rfl (fun wq hq => ev_indexAddr Try.underlying23 sz3 rfl rfl (hr65.isSome (by omega)) (by omega) (by omega)) ?_
        refine PW_q rfl rfl (fun wq hq => ev_load one3 rfl ((hr65.kx hq.1 (by omega)).cellJ (i := 0) (j := Int.toNat ((0 : Nat) : Int)) (by omega) (by omega))) ?_
        rw [show ([(v9 : Int), (i9 : Int), (w9 : Int), (j9 : Int)] : List Int)[0] = (v9 : Int) from rfl]
        refine PW_q rfl rfl (fun wq hq => ev_move rfl) ?_
        refine PW_q rfl rfl (fun wq hq => ev_mul rfl rfl (by omega)) ?_
        refine PW_q rfl rfl (fun wq hq => ev_move rfl) ?_
        refine PW_q rfl rfl (fun wq hq => ev_add rfl rfl (by omega)) ?_
        rw [hx1e]
        refine PW_q rfl rfl (fun wq hq => ev_move rfl) ?_
        refine PW_q rfl rfl (fun wq hq => ev_indexAddr Try.underlying23 sz3 rfl rfl (hr65.isSome (by omega)) (by omega) (by omega)) ?_
        refine PW_q rfl rfl (fun wq hq => ev_load one3 rfl ((hr65.kx hq.1 (by omega)).cellJ (i := 1) (j := Int.toNat ((1 : Nat) : Int)) (by omega) (by omega))) ?_
        rw [show ([(v9 : Int), (i9 : Int), (w9 : Int), (j9 : Int)] : List Int)[1] = (i9 : Int) from rfl]
        refine PW_q rfl rfl (fun wq hq => ev_build2 sn61_2 rfl rfl rfl rfl) ?_
        refine PW_q rfl rfl (fun wq hq => ev_indexAddr Try.underlying56 sz61 rfl rfl rfl (by omega) (by omega)) ?_
        refine PW_s rfl (ev_stores sz61 rfl rfl rfl (by simp [Value.oneCell']) hBr2 (by rw [List.length_append, pairCells_length]; show _ + 2 ≤ _; omega)) ?_
        rintro _ w18_26 hS18_26
        have hz18_26 := hS18_26.size
        replace hE := hE.sto hS18_26 (by omega)
        replace hRL4 := hRL4.sto hS18_26 (by omega)
        replace hRL6 := hRL6.sto hS18_26 (by omega)
        replace hDd18 := hDd18.sto hS18_26 (by omega)
        replace hBr2 := hS18_26.blk
        have hV2 := hV2_0.set (e := ((x1 : Int), (i9 : Int))) hsx3 hiv2 hrw2 hg2a (by omega) hS18_26 hBr2_0 (by simpa using hBr2)
        refine ⟨⟨hDd18, trivial⟩, ?_⟩
        replace hA := hA.kx hDd18 (by omega)
        replace hps := hps.kx hDd18 (by omega)
        replace hB3 := hB3.kx hDd18 (by omega)
        replace hB6 := hB6.kx hDd18 (by omega)
        replace hI60 := hI60.kx hDd18 (by omega)
        replace hr65 := hr65.kx hDd18 (by omega)
        replace hr69 := hr69.kx hDd18 (by omega)
        replace hB7 := hB7.kx hDd18 (by omega)
        replace hBi := hBi.kx hDd18 (by omega)
        replace hBk2 := hBk2.kx hDd18 (by omega)
        refine PW_nil ?_
        refine blockE_n ?_
        refine thenE_n ?_
        refine W_region ?_
        refine WL_q rfl (ev_add rfl rfl (by omega)) ?_
        refine WL_q rfl (ev_move rfl) ?_
        refine WL_nil ?_
        refine thenE_n ?_
        exact ⟨s + 1, (Subs.c rfl (Subs.c rfl (Subs.c rfl (Subs.c rfl (Subs.c rfl (Subs.c rfl (Subs.c rfl (Subs.c rfl (Subs.c rfl (Subs.c rfl Subs.n)))))))))), (Subs.c (lkI rfl (by omega)) Subs.n), ⟨hRL6, ⟨by omega, hB7, hV2.to (by rw [put2_eq, put2_eq]; exact lfS_step hq (by rw [getD_eq hlps, hg1, ht9]) hx1 hx2), hBi⟩⟩, by first | omega | (dsimp only; omega)⟩
      · have hp73 := of_decide_eq_false hg73
        refine W_exit ?_
        refine thenE_x ?_
        refine thenE_x ?_
        refine blockE_hit ?_
        refine blockE_n ?_
        refine thenE_n ?_
        refine W_region ?_
        refine WL_q rfl (ev_add rfl rfl (by omega)) ?_
        refine WL_q rfl (ev_move rfl) ?_
        refine WL_nil ?_
        refine thenE_n ?_
        have hs9 : s = k := by omega
        rw [hs9] at hV
        exact ⟨m + 1, (Subs.c rfl (Subs.c rfl (Subs.c rfl (Subs.c rfl (Subs.c rfl (Subs.c rfl Subs.n)))))), (Subs.c (lkI rfl (by omega)) Subs.n), ⟨hRL4, ⟨by omega, hB7, hV, hBi⟩⟩, by first | omega | (dsimp only; omega)⟩
    · have hp63 := of_decide_eq_false hg63
      refine W_exit ?_
      refine thenE_x ?_
      refine thenE_x ?_
      refine blockE_hit ?_
      refine thenE_n ?_
      refine W_seq ?_
      refine W_region ?_
      refine WL_q rfl (ev_loads st31 sz31 rfl (cellsB hB7) rfl) ?_
      refine WL_s (ev_stores sz31 rfl rfl rfl (by simp [Value.oneCell']) hB6 (by simp)) ?_
      rintro _ w21_1 hS21_1
      have hz21_1 := hS21_1.size
      replace hE := hE.sto hS21_1 (by omega)
      replace hA := hA.sto hS21_1 (by omega)
      replace hps := hps.sto hS21_1 (by omega)
      replace hB3 := hB3.sto hS21_1 (by omega)
      replace hI60 := hI60.sto hS21_1 (by omega)
      replace hB7 := hB7.sto hS21_1 (by omega)
      replace hV := hV.sto hS21_1 (by omega)
      replace hBi := hBi.sto hS21_1 (by omega)
      replace hB6 : Blk w21_1 _ _ [_, _, _] := hS21_1.blk
      refine WL_nil ?_
      refine thenE_n ?_
      refine W_ret ?_
      refine retc rfl rfl st31 sz31 (cellsB hB6) rfl ?_
      have hm9 : m = (edL A.ends).length := by omega
      subst hm9
      have hlen9 := (lfM_shp (A := A) (k := k) (perms := ps) (edL A.ends).length).1
      exact ⟨⟨some ⟨b20, 0, none⟩, N9, none, 0, some ⟨d20, 0, none⟩, N9⟩, by simp [netV, liftN, hlen9, hN9], net_blocks (hV.2.2.prows.mono (by omega) (by omega)) hV.2.1 ⟨by omega, by omega⟩ hBi ⟨by omega, by omega⟩ rfl (by show (lfM A k ps (edL A.ends).length).length = N9; rw [hlen9]; exact hN9) (by simp [liftN]; exact hN9), lift_tot hL, hE⟩

end Go.Proofs.Ytladejfcplpnaaa
