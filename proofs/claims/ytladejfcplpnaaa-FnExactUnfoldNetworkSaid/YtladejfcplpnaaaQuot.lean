/- Contracts of the network of classes, of the program and of the reference; the walks of FnExactQuotientOf and FnExactMinimalBase. -/
import Derived.Test.YtladejfcplpnaaaNetAcc
import Derived.Test.YtladejfcplpnaaaBuild
import Derived.Test.YtladejfcplpnaaaCovering
import Derived.Test.YtladejfcplpnaaaDrawV
import Derived.Test.YtladejfcplpnaaaDist
namespace Go.Proofs.Ytladejfcplpnaaa
open Go Go.RowKit

theorem fibs_mem (m : List Int) (n v : Nat) : ∀ r ∈ fibsN m n v, ∀ x ∈ r, 0 ≤ x ∧ x < (v : Int) := by
  induction v with
  | zero => intro r hr x hx; simp [fibsN] at hr; rw [hr.2] at hx; simp at hx
  | succ v ih =>
    intro r hr x hx
    unfold fibsN at hr
    split at hr
    · rcases List.mem_or_eq_of_mem_set hr with h | h
      · have := ih r h x hx; omega
      · subst h
        rcases List.mem_append.1 hx with h | h
        · rename_i y _
          by_cases hb : y.toNat < (fibsN m n v).length
          · rw [getD_eq hb] at h; have := ih _ (List.getElem_mem hb) x h; omega
          · simp [List.getD, List.getElem?_eq_none (Nat.le_of_not_lt hb)] at h
        · simp at h; omega
    · have := ih r hr x hx; omega
theorem fibs_at {m : List Int} {n i j : Nat} (hi : i < (fibs m n).length) (hj : j < (fibs m n)[i].length) : 0 ≤ (fibs m n)[i][j] ∧ (fibs m n)[i][j].toNat < m.length := by
  have := fibs_mem m n m.length _ (List.getElem_mem hi) _ (List.getElem_mem hj)
  unfold fibs at *
  omega
theorem fibs_row {m : List Int} {n i : Nat} (hi : i < (fibs m n).length) : (fibs m n)[i].length ≤ m.length := fibsN_row m n m.length _ (List.getElem_mem hi)
theorem lmax_of_mem {xs : List Int} {x : Int} (h : x ∈ xs) : x ≤ lmax xs := by
  cases xs with
  | nil => cases h
  | cons y r =>
    show x ≤ r.foldl max y
    rcases List.mem_cons.1 h with e | e
    · subst e; exact (foldl_max_ge r _).1
    · exact (foldl_max_ge r y).2 x e
/-- The first node of a class. -/
def hd0 (C : List Int) (K c : Nat) : Int := ((fibs C K).getD c []).getD 0 0
theorem hd0_at {C : List Int} {K c : Nat} (h : c < (fibs C K).length) (h0 : 0 < (fibs C K)[c].length) : (fibs C K)[c][0] = hd0 C K c := by unfold hd0; rw [getD_eq h, getD_eq h0]
def qRow (A : Net) (C : List Int) (K c : Nat) : List (Int × Int) := (A.ends.getD (hd0 C K c).toNat []).map fun e => (C.getD e.1.toNat 0, e.2)
def qE (A : Net) (C : List Int) (K i : Nat) : Ends := (List.range i).map (qRow A C K)
def qI (A : Net) (C : List Int) (K i : Nat) : List Int := (List.range i).map fun c => A.inputs.getD (hd0 C K c).toNat 0
def qEk (A : Net) (C : List Int) (K i k : Nat) : Ends := qE A C K i ++ [(qRow A C K i).take k]
/-- The network of K classes. -/
def quoK (A : Net) (C : List Int) (K : Nat) : Net := ⟨qE A C K K, [], qI A C K K⟩
section
variable {A : Net} {C : List Int} {K i k : Nat}
theorem qE_len : (qE A C K i).length = i := by simp [qE]
theorem qI_len : (qI A C K i).length = i := by simp [qI]
theorem qE_succ : qE A C K i ++ [qRow A C K i] = qE A C K (i + 1) := by simp [qE, List.range_succ]
theorem qI_succ : qI A C K i ++ [A.inputs.getD (hd0 C K i).toNat 0] = qI A C K (i + 1) := by simp [qI, List.range_succ]
theorem qEk_len : (qEk A C K i k).length = i + 1 := by simp [qEk, qE_len]
theorem qEk_zero : qE A C K i ++ [[]] = qEk A C K i 0 := by simp [qEk]
theorem qEk_at {h : i < (qEk A C K i k).length} : (qEk A C K i k)[i] = (qRow A C K i).take k := by
  simp only [qEk]
  rw [List.getElem_append_right (by simp [qE_len])]; simp [qE_len]
theorem qEk_set {xs : List (Int × Int)} {k' : Nat} (h : xs = (qRow A C K i).take k') : (qEk A C K i k).set i xs = qEk A C K i k' := by
  subst h
  unfold qEk
  rw [List.set_append_right _ _ (by simp [qE_len])]; simp [qE_len]
theorem qEk_full (h : (qRow A C K i).length ≤ k) : qEk A C K i k = qE A C K (i + 1) := by unfold qEk; rw [List.take_of_length_le h, qE_succ]
theorem qRow_len (hv : (hd0 C K i).toNat < A.ends.length) : (qRow A C K i).length = A.ends[(hd0 C K i).toNat].length := by unfold qRow; rw [getD_eq hv]; simp
theorem qRow_take (hv : (hd0 C K i).toNat < A.ends.length) (hk : k < A.ends[(hd0 C K i).toNat].length) (hc : A.ends[(hd0 C K i).toNat][k].1.toNat < C.length) : (qRow A C K i).take k ++ [(C[A.ends[(hd0 C K i).toNat][k].1.toNat], A.ends[(hd0 C K i).toNat][k].2)] = (qRow A C K i).take (k + 1) := by
  have h : k < (qRow A C K i).length := by rw [qRow_len hv]; exact hk
  rw [List.take_succ_eq_append_getElem h]
  congr 2
  simp only [qRow, List.getElem_map, getD_eq hv, getD_eq hc]
end
theorem qRow_lenV {A : Net} {C : List Int} {K i v : Nat} (e : v = (hd0 C K i).toNat) (hv : v < A.ends.length) : (qRow A C K i).length = A.ends[v].length := by subst e; exact qRow_len hv
theorem qRow_takeV {A : Net} {C : List Int} {K i k v : Nat} (e : v = (hd0 C K i).toNat) (hv : v < A.ends.length) (hk : k < A.ends[v].length) (hc : A.ends[v][k].1.toNat < C.length) : (qRow A C K i).take k ++ [(C[A.ends[v][k].1.toNat], A.ends[v][k].2)] = (qRow A C K i).take (k + 1) := by subst e; exact qRow_take hv hk hc
/-- Where the classes make a network. -/
def QV (A : Net) (C : List Int) (K : Nat) : Prop := ((C.length : Int) = A.ends.length ∧ allR C 0 ((A.ends.length : Int) - 1) = true) ∧ (∀ c, c < K → 0 < ((fibs C K).getD c []).length) ∧ NOk (quoK A C K) ∧ IsPM A (quoK A C K) C
theorem totL_bd {α : Type} {xss : List (List α)} {B : Nat} (h : ∀ r ∈ xss, r.length ≤ B) : totL xss ≤ xss.length * (B + 1) := by
  unfold totL
  induction xss with
  | nil => simp
  | cons x r ih =>
    have h1 := ih fun y hy => h y (List.mem_cons_of_mem _ hy)
    have h2 := h x (List.mem_cons_self ..)
    simp only [List.length_cons, List.map_cons, List.sum_cons, Nat.add_mul, Nat.one_mul] at h1 ⊢
    omega
theorem NOk.six {n : Net} (h : NOk n) : ∀ r ∈ n.ends, r.length ≤ 6 := by
  intro r hr
  obtain ⟨v, hv, rfl⟩ := List.mem_iff_getElem.1 hr
  have := (h.rows v hv).1; omega
theorem NOk.tot {A : Net} (h : NOk A) : totN A ≤ 1048576 := by
  have h1 := totL_bd h.six
  have h2 := h.nodes
  have h3 := h.inLen
  have h4 : A.ids.length ≤ 40 := by
    rcases h.ids with h1 | h1
    · omega
    · have := h1.1; omega
  unfold totN; omega
theorem quo_tot {A : Net} {C : List Int} {K : Nat} (h : NOk A) (hK : K ≤ 40) : totN (quoK A C K) ≤ 1048576 := by
  have h1 : ∀ r ∈ (quoK A C K).ends, r.length ≤ 6 := by
    intro r hr
    obtain ⟨c, _, rfl⟩ := List.mem_map.1 (show r ∈ (List.range K).map (qRow A C K) from hr)
    unfold qRow
    by_cases hv : (hd0 C K c).toNat < A.ends.length
    · rw [getD_eq hv, List.length_map]; exact h.six _ (List.getElem_mem hv)
    · simp [List.getD, List.getElem?_eq_none (Nat.le_of_not_lt hv)]
  have h2 := totL_bd h1
  have h3 : (quoK A C K).ends.length = K := qE_len
  have h4 : (quoK A C K).inputs.length = K := qI_len
  have h5 : (quoK A C K).ids.length = 0 := rfl
  unfold totN; omega
theorem NAcc.rowOpen {l r : Nat} {w : World} {E F I : TypeId} {vs : List (Option Addr × Nat)} {h : NA} {A : Net} (x : NAcc l r w E F I vs h A) {i : Nat} (h1 : i < vs.length) (h2 : i < A.ends.length) :
    ∃ g rest, h.a1 = some ⟨g, 0, none⟩ ∧ l ≤ g ∧ g < r ∧ Blk w g F (((vs.zip A.ends).map fun p => rowVal p.1 p.2) ++ rest) ∧ (A.ends.length ≤ h.c1 ∧ h.c1 ≤ maxLen ∧ (((vs.zip A.ends).map fun p => rowVal p.1 p.2) ++ rest).length = h.c1 * 1) ∧ OwnH l r 0 0 w E 2 vs[i].1 A.ends[i].length vs[i].2 (pairCells A.ends[i]) ∧ ∀ q, vs[i].1 = some q → l ≤ q.block ∧ q.block < r ∧ q.block ≠ g := by
  have hl := x.rows.len
  obtain ⟨g, rest, ha, hg, hB, k1, k2, k3, k4⟩ := x.rows.out.open (by simp [hl]; omega)
  have ho := x.rows.row i h1 h2
  refine ⟨g, rest, ha, hg, x.rows.otop _ ha, hB, ⟨k1, k2, k3⟩, ⟨ho, fun q hq => ⟨x.rows.top i h1 q hq, .inr (Nat.zero_le _)⟩⟩, fun q hq => ⟨(ho.block q hq).1, x.rows.top i h1 q hq, Ne.symm (x.rows.osep i h1 _ q ha hq)⟩⟩
/-- A row was appended to, and what it is now was stored. -/
theorem NAcc.rowGrow {l r : Nat} {w0 w1 w2 : World} {E F I T : TypeId} {vs : List (Option Addr × Nat)} {h : NA} {A : Net} (x : NAcc l r w0 E F I vs h A) {i : Nat} (h1 : i < vs.length) (h2 : i < A.ends.length) {g j : Nat} {rest ds : List Value} (ha : h.a1 = some ⟨g, 0, none⟩) (hg : l ≤ g ∧ g < r)
    (hc : A.ends.length ≤ h.c1 ∧ h.c1 ≤ maxLen ∧ (((vs.zip A.ends).map fun p => rowVal p.1 p.2) ++ rest).length = h.c1 * 1) {a' : Option Addr} {c' n' : Nat} {ys : List (Int × Int)} (k : Apd w0 w1 vs[i].1) (o : Own l w1 E 2 a' n' c' (pairCells ys)) (hn : n' = ys.length)
    (fr : ∀ q, a' = some q → (∃ p, vs[i].1 = some p ∧ q.block = p.block) ∨ w0.heap.size ≤ q.block) (hr : r ≤ w0.heap.size) (s : Sto w1 w2 g T ds) (hB : Blk w2 g F ((((vs.zip A.ends).map fun p => rowVal p.1 p.2) ++ rest).set j (.slice a' n' c'))) (hj : j = i) : NAcc l w2.heap.size w2 E F I (vs.set i (a', c')) h ⟨A.ends.set i ys, A.ids, A.inputs⟩ := by
  subst hj; subst hn
  have hl := x.rows.len
  have hks := k.size
  have hss := s.size
  have hsep : ∀ q, vs[j].1 = some q → q.block ≠ g := fun q hq => Ne.symm (x.rows.osep j h1 _ q ha hq)
  have hng : ∀ q, a' = some q → q.block ≠ g := fun q hq => by
    rcases fr q hq with ⟨p, hp, e⟩ | hge
    · rw [e]; exact hsep p hp
    · omega
  refine x.replace h1 ?_ ?_ (o.keep s.keep hng) (fun q hq => (fr q hq).imp id fun e => by omega) (by omega) (fun q hq => by have := (o.block q hq).2; omega)
  · refine Keep.trans (k.mono fun b hb => ⟨by have := hb.1; omega, hb.2.2⟩) (s.keep.mono fun b hb => ?_)
    have := hb.2.1 _ ha
    exact this
  · rw [ha]
    rw [List.set_append_left _ _ (by simp [hl]; omega)] at hB
    exact Own.of_front hB hg.1 hc.1 hc.2.1 (by have := hc.2.2; simpa using this) (by simp [hl])

end Go.Proofs.Ytladejfcplpnaaa
