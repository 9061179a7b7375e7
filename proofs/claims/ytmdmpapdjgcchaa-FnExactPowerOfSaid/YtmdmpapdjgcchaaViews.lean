/- Classes numbered by their first members, with no program in sight; classes of views, and when they no longer change. No condition. -/
import Derived.Test.YtmdmpapdjgcchaaMaps
import Derived.Test.YtmdmpapdjgcchaaBfs
namespace Go.Proofs.Ytmdmpapdjgcchaa

theorem snoc_ind {α : Type} {P : List α → Prop} (h0 : P []) (h1 : ∀ l x, P l → P (l ++ [x])) : ∀ l, P l := fun l => by
  have : ∀ l : List α, P l.reverse := fun l => by
    induction l with
    | nil => exact h0
    | cons x r ih => rw [List.reverse_cons]; exact h1 _ _ ih
  have := this l.reverse
  rwa [List.reverse_reverse] at this
section
variable {κ : Type} [DecidableEq κ]
/-- The distinct keys, in the order in which they come up. -/
def dds (ks : List κ) : List κ := ks.foldl (fun d k => if k ∈ d then d else d ++ [k]) []
def cidx (d : List κ) (k : κ) : Nat := d.findIdx fun x => decide (x = k)
/-- For each key the number of keys that came up before its first place. -/
def classOf (ks : List κ) : List Int := ks.map fun k => (cidx (dds ks) k : Int)
theorem dds_snoc (ks : List κ) (k : κ) : dds (ks ++ [k]) = if k ∈ dds ks then dds ks else dds ks ++ [k] := by unfold dds; rw [List.foldl_append]; rfl
theorem mem_dds {ks : List κ} : ∀ {k : κ}, k ∈ dds ks ↔ k ∈ ks := by
  refine snoc_ind (P := fun ks => ∀ {k : κ}, k ∈ dds ks ↔ k ∈ ks) ?_ ?_ ks
  · intro k; simp [dds]
  · intro ks x ih k
    rw [dds_snoc]
    split
    · rename_i h
      rw [ih, List.mem_append, List.mem_singleton]
      exact ⟨.inl, fun h2 => h2.elim id fun e => e ▸ ih.1 h⟩
    · rw [List.mem_append, ih, List.mem_append]
theorem dds_nodup (ks : List κ) : (dds ks).Nodup := by
  refine snoc_ind (P := fun ks => (dds ks).Nodup) ?_ ?_ ks
  · simp [dds]
  · intro ks x ih
    rw [dds_snoc]
    split
    · exact ih
    · rename_i h
      rw [List.nodup_append]
      exact ⟨ih, by simp, fun a ha b hb e => by simp at hb; subst hb e; exact h ha⟩
theorem dds_pre (ks ls : List κ) : ∃ r, dds (ks ++ ls) = dds ks ++ r := by
  refine snoc_ind (P := fun ls => ∃ r, dds (ks ++ ls) = dds ks ++ r) ?_ ?_ ls
  · exact ⟨[], by simp⟩
  · intro ls x ih
    obtain ⟨r, hr⟩ := ih
    rw [← List.append_assoc, dds_snoc]
    split
    · exact ⟨r, hr⟩
    · exact ⟨r ++ [x], by rw [hr, List.append_assoc]⟩
theorem cidx_app {d r : List κ} {k : κ} (h : k ∈ d) : cidx (d ++ r) k = cidx d k := by
  unfold cidx
  rw [List.findIdx_append, if_pos]
  rw [List.findIdx_lt_length]
  exact ⟨k, h, by simp⟩
theorem cidx_lt {d : List κ} {k : κ} (h : k ∈ d) : cidx d k < d.length := by unfold cidx; rw [List.findIdx_lt_length]; exact ⟨k, h, by simp⟩
theorem cidx_get {d : List κ} {k : κ} (h : cidx d k < d.length) : d[cidx d k] = k := by
  have := List.findIdx_getElem (xs := d) (p := fun x => decide (x = k)) (w := h)
  exact of_decide_eq_true this
omit [DecidableEq κ] in
theorem nodup_idx {d : List κ} (h : d.Nodup) {i j : Nat} (hi : i < d.length) (hj : j < d.length) (e : d[i] = d[j]) : i = j := by
  rcases Nat.lt_trichotomy i j with h1 | h1 | h1
  · exact absurd e ((List.pairwise_iff_getElem.1 h) i j hi hj h1)
  · exact h1
  · exact absurd e.symm ((List.pairwise_iff_getElem.1 h) j i hj hi h1)
theorem cidx_new {d : List κ} {k : κ} (h : k ∉ d) : cidx (d ++ [k]) k = d.length := by
  unfold cidx
  rw [List.findIdx_append, if_neg (fun hlt => by
    rw [List.findIdx_lt_length] at hlt
    obtain ⟨x, hx, e⟩ := hlt
    simp at e; subst e; exact h hx)]
  simp
theorem classOf_len (ks : List κ) : (classOf ks).length = ks.length := by simp [classOf]
theorem classOf_at {ks : List κ} {i : Nat} (h : i < ks.length) (h2 : i < (classOf ks).length) : (classOf ks)[i] = if ks[i] ∈ dds (ks.take i) then (cidx (dds (ks.take i)) ks[i] : Int) else ((dds (ks.take i)).length : Int) := by
  have e : ks = (ks.take i ++ [ks[i]]) ++ ks.drop (i + 1) := by rw [← List.take_succ_eq_append_getElem h, List.take_append_drop]
  obtain ⟨r, hr⟩ := dds_pre (ks.take i ++ [ks[i]]) (ks.drop (i + 1))
  rw [← e] at hr
  have e1 : (classOf ks)[i] = (cidx (dds ks) ks[i] : Int) := by simp [classOf]
  refine e1.trans ?_
  rw [hr, dds_snoc]
  split
  · rename_i hm; rw [cidx_app hm]
  · rename_i hm; rw [cidx_app (by simp), cidx_new hm]
theorem classOf_same {ks : List κ} {i j : Nat} (hi : i < ks.length) (hj : j < ks.length) {h1 : i < (classOf ks).length} {h2 : j < (classOf ks).length} : (classOf ks)[i] = (classOf ks)[j] ↔ ks[i] = ks[j] := by
  simp only [classOf, List.getElem_map]
  constructor
  · intro h
    have hn := dds_nodup ks
    have hi' := cidx_lt (mem_dds.2 (List.getElem_mem hi))
    have hj' := cidx_lt (mem_dds.2 (List.getElem_mem hj))
    have e : cidx (dds ks) ks[i] = cidx (dds ks) ks[j] := by omega
    have a1 : (dds ks)[cidx (dds ks) ks[i]] = ks[i] := cidx_get hi'
    have a2 : (dds ks)[cidx (dds ks) ks[j]] = ks[j] := cidx_get hj'
    rw [← a1, ← a2]
    exact getElem_congr_idx e
  · intro h; rw [h]
def kvsOf (d : List κ) : List (κ × Int) := d.zipIdx.map fun p => (p.1, (p.2 : Int))
omit [DecidableEq κ] in
theorem kvsOf_len (d : List κ) : (kvsOf d).length = d.length := by simp [kvsOf]
omit [DecidableEq κ] in
theorem kvsOf_snoc (d : List κ) (k : κ) : kvsOf (d ++ [k]) = kvsOf d ++ [(k, (d.length : Int))] := by simp [kvsOf, List.zipIdx_append]
omit [DecidableEq κ] in
theorem kvsOf_keys (d : List κ) : (kvsOf d).map Prod.fst = d := by
  simp [kvsOf, List.map_map, Function.comp_def]
theorem alook_kvs {d : List κ} {k : κ} (hn : d.Nodup) : alook (kvsOf d) k = if k ∈ d then some (cidx d k : Int) else none := by
  split
  · rename_i h
    have hl := cidx_lt h
    have a1 : d[cidx d k] = k := cidx_get hl
    have hm : (k, (cidx d k : Int)) ∈ kvsOf d := by
      unfold kvsOf
      refine List.mem_map.2 ⟨(k, cidx d k), ?_, rfl⟩
      rw [List.mem_zipIdx_iff_getElem?]
      rw [List.getElem?_eq_getElem hl, a1]
    exact alook_mem (p := (k, (cidx d k : Int))) (by rw [kvsOf_keys]; exact hn) hm
  · rename_i h
    rw [alook_none]
    intro p hp e
    exact h (by rw [← kvsOf_keys d, ← e]; exact List.mem_map_of_mem hp)
end

/-! ### Lists numbered by first members -/
/-- i is the first place of its number. -/
def Fst1 (X : List Int) (i : Nat) : Prop := ∀ j, j < i → X.getD j 0 ≠ X.getD i 0
open Classical in
/-- How many first places lie before i. -/
noncomputable def fc (X : List Int) (i : Nat) : Nat := ((List.range i).filter fun j => decide (Fst1 X j)).length
theorem fc_succ_new {X : List Int} {i : Nat} (h : Fst1 X i) : fc X (i + 1) = fc X i + 1 := by simp [fc, List.range_succ, List.filter_append, h]
theorem fc_succ_old {X : List Int} {i : Nat} (h : ¬ Fst1 X i) : fc X (i + 1) = fc X i := by simp [fc, List.range_succ, List.filter_append, h]
theorem fc_le (X : List Int) (i : Nat) : fc X i ≤ i := by unfold fc; exact Nat.le_trans (List.length_filter_le _ _) (by simp)
theorem fc_mono {X : List Int} {i j : Nat} (h : i ≤ j) : fc X i ≤ fc X j := by
  induction j with
  | zero => have : i = 0 := by omega
            subst this; exact Nat.le_refl _
  | succ j ih =>
    by_cases e : i = j + 1
    · subst e; exact Nat.le_refl _
    · have := ih (by omega)
      by_cases hn : Fst1 X j
      · rw [fc_succ_new hn]; omega
      · rw [fc_succ_old hn]; exact this
/-- Fst1 numbers come in order. -/
def Can (X : List Int) : Prop := ∀ i, i < X.length → Fst1 X i → X.getD i 0 = fc X i
theorem classOf_new {κ : Type} [DecidableEq κ] {ks : List κ} {i : Nat} (hi : i < ks.length) : Fst1 (classOf ks) i ↔ ks[i] ∉ ks.take i := by
  have hl := classOf_len ks
  constructor
  · intro h hm
    obtain ⟨j, hj, e⟩ := List.mem_take_iff_getElem.1 hm
    have hji : j < i := by omega
    refine h j hji ?_
    rw [getD_eq (by omega), getD_eq (by omega)]
    exact (classOf_same (by omega) hi).2 e
  · intro h j hj e
    rw [getD_eq (by omega), getD_eq (by omega)] at e
    have := (classOf_same (by omega) hi).1 e
    exact h (by rw [← this]; exact List.mem_take_iff_getElem.2 ⟨j, by omega, rfl⟩)
theorem classOf_fc {κ : Type} [DecidableEq κ] {ks : List κ} : ∀ i, i ≤ ks.length → fc (classOf ks) i = (dds (ks.take i)).length := by
  intro i
  induction i with
  | zero => intro _; simp [fc, dds]
  | succ i ih =>
    intro hi
    have h := ih (by omega)
    rw [List.take_succ_eq_append_getElem (by omega), dds_snoc]
    by_cases hn : Fst1 (classOf ks) i
    · rw [fc_succ_new hn, if_neg (fun hm => (classOf_new (by omega)).1 hn (mem_dds.1 hm)), h]; simp
    · rw [fc_succ_old hn, if_pos, h]
      exact mem_dds.2 (Classical.not_not.1 fun hm => hn ((classOf_new (by omega)).2 hm))
theorem classOf_can {κ : Type} [DecidableEq κ] (ks : List κ) : Can (classOf ks) := by
  intro i hi hn
  rw [classOf_len] at hi
  rw [getD_eq (by rw [classOf_len]; exact hi), classOf_at hi, if_neg (fun hm => (classOf_new hi).1 hn (mem_dds.1 hm)), classOf_fc i (by omega)]
theorem classOf_lt {κ : Type} [DecidableEq κ] {ks : List κ} : ∀ x ∈ classOf ks, 0 ≤ x ∧ x < ((dds ks).length : Int) := by
  intro x hx
  obtain ⟨k, hk, rfl⟩ := List.mem_map.1 hx
  have := cidx_lt (mem_dds.2 hk)
  omega
theorem dds_le {κ : Type} [DecidableEq κ] (ks : List κ) : (dds ks).length ≤ ks.length := by
  have := classOf_fc (ks := ks) ks.length (Nat.le_refl _)
  rw [List.take_length] at this
  rw [← this]; exact fc_le _ _
/-- The number of classes is one more than the greatest. -/
theorem classOf_top {κ : Type} [DecidableEq κ] {ks : List κ} (h : 0 < ks.length) : ∃ m ∈ classOf ks, m = ((dds ks).length : Int) - 1 := by
  have hd : 0 < (dds ks).length := by
    have : ks[0] ∈ dds ks := mem_dds.2 (List.getElem_mem h)
    exact List.length_pos_of_mem this
  have hk := mem_dds.1 (List.getElem_mem (show (dds ks).length - 1 < (dds ks).length by omega))
  refine ⟨(cidx (dds ks) (dds ks)[(dds ks).length - 1] : Int), List.mem_map_of_mem hk, ?_⟩
  have hl := cidx_lt (d := dds ks) (List.getElem_mem (show (dds ks).length - 1 < (dds ks).length by omega))
  have a1 : (dds ks)[cidx (dds ks) (dds ks)[(dds ks).length - 1]] = (dds ks)[(dds ks).length - 1] := cidx_get hl
  have := nodup_idx (dds_nodup ks) hl (by omega) a1
  omega
/-- A finer numbering with no more numbers is the same. -/
theorem can_eq {X Y : List Int} (hl : X.length = Y.length) (cX : Can X) (cY : Can Y) (hf : ∀ i j, i < X.length → j < X.length → X.getD i 0 = X.getD j 0 → Y.getD i 0 = Y.getD j 0) (hc : fc X X.length = fc Y Y.length) : X = Y := by
  have hnew : ∀ i, i < X.length → Fst1 Y i → Fst1 X i := fun i hi h j hj e => h j hj (hf j i (by omega) hi e)
  have hle : ∀ i j, i ≤ j → j ≤ X.length → fc Y j - fc Y i ≤ fc X j - fc X i ∧ fc Y i ≤ fc Y j := by
    intro i j hij hj
    induction j with
    | zero => have : i = 0 := by omega
              subst this; exact ⟨by omega, Nat.le_refl _⟩
    | succ j ih =>
      by_cases e : i = j + 1
      · subst e; exact ⟨by omega, Nat.le_refl _⟩
      · obtain ⟨h1, h2⟩ := ih (by omega) (by omega)
        have hx := fc_mono (X := X) (show i ≤ j by omega)
        by_cases hy : Fst1 Y j
        · rw [fc_succ_new hy, fc_succ_new (hnew j (by omega) hy)]; omega
        · rw [fc_succ_old hy]
          by_cases hx' : Fst1 X j
          · rw [fc_succ_new hx']; omega
          · rw [fc_succ_old hx']; omega
  have heq : ∀ i, i ≤ X.length → fc X i = fc Y i := by
    intro i hi
    have h1 := hle 0 i (by omega) hi
    have h2 := hle i X.length hi (Nat.le_refl _)
    have z1 : fc X 0 = 0 := by simp [fc]
    have z2 : fc Y 0 = 0 := by simp [fc]
    have m1 := fc_mono (X := X) (show i ≤ X.length from hi)
    have m2 := fc_mono (X := Y) (show i ≤ X.length from hi)
    rw [← hl] at hc
    omega
  have hnew2 : ∀ i, i < X.length → Fst1 X i → Fst1 Y i := fun i hi h => by
    by_cases hy : Fst1 Y i
    · exact hy
    · have h1 := heq (i + 1) (by omega)
      rw [fc_succ_new h, fc_succ_old hy] at h1
      have := heq i (by omega)
      omega
  have hall : ∀ i, i < X.length → X.getD i 0 = Y.getD i 0 := by
    intro i
    induction i using Nat.strongRecOn with
    | ind i ih =>
      intro hi
      by_cases h : Fst1 X i
      · rw [cX i hi h, cY i (by omega) (hnew2 i hi h), heq i (by omega)]
      · have : ∃ j, j < i ∧ X.getD j 0 = X.getD i 0 := by
          refine Classical.byContradiction fun hno => h fun j hj e => hno ⟨j, hj, e⟩
        obtain ⟨j, hj, e⟩ := this
        have h1 := ih j hj (by omega)
        have h2 := hf j i (by omega) hi e
        rw [← e, h1, h2]
  apply List.ext_getElem hl
  intro i h1 h2
  have := hall i h1
  rwa [getD_eq h1, getD_eq h2] at this
theorem fc_finer {X Y : List Int} (hl : X.length = Y.length) (hf : ∀ i j, i < X.length → j < X.length → X.getD i 0 = X.getD j 0 → Y.getD i 0 = Y.getD j 0) : fc Y Y.length ≤ fc X X.length := by
  rw [hl]
  have : ∀ i, i ≤ X.length → fc Y i ≤ fc X i := by
    intro i
    induction i with
    | zero => intro _; simp [fc]
    | succ i ih =>
      intro hi
      have := ih (by omega)
      by_cases hy : Fst1 Y i
      · rw [fc_succ_new hy, fc_succ_new (fun j hj e => hy j hj (hf j i (by omega) (by omega) e))]; omega
      · rw [fc_succ_old hy]
        have := fc_mono (X := X) (show i ≤ i + 1 by omega)
        omega
  exact this _ (by omega)

/-! ### Views -/
abbrev VKey := Int × Int × List (Int × Int)
def vkey (ends : Ends) (inputs : List Int) (C : Option (List Int)) (v : Nat) : VKey :=
  ((ends.getD v []).length, inputs.getD v 0, match C with | none => [] | some c => (ends.getD v []).map fun e => (e.2, c.getD e.1.toNat 0))
def vkeys (ends : Ends) (inputs : List Int) (C : Option (List Int)) : List VKey := (List.range ends.length).map (vkey ends inputs C)
def view (ends : Ends) (inputs : List Int) : Nat → List Int
  | 0 => classOf (vkeys ends inputs none)
  | t + 1 => classOf (vkeys ends inputs (some (view ends inputs t)))
theorem vkeys_len (ends : Ends) (inputs : List Int) (C : Option (List Int)) : (vkeys ends inputs C).length = ends.length := by simp [vkeys]
theorem view_len (ends : Ends) (inputs : List Int) (t : Nat) : (view ends inputs t).length = ends.length := by cases t <;> simp [view, classOf_len, vkeys_len]
theorem vkeys_at {ends : Ends} {inputs : List Int} {C : Option (List Int)} {v : Nat} (h : v < (vkeys ends inputs C).length) : (vkeys ends inputs C)[v] = vkey ends inputs C v := by simp [vkeys]
theorem view_same {ends : Ends} {inputs : List Int} {t i j : Nat} (hi : i < ends.length) (hj : j < ends.length) : (view ends inputs t).getD i 0 = (view ends inputs t).getD j 0 ↔
    vkey ends inputs (match t with | 0 => none | t + 1 => some (view ends inputs t)) i = vkey ends inputs (match t with | 0 => none | t + 1 => some (view ends inputs t)) j := by
  rw [getD_eq (by rw [view_len]; exact hi), getD_eq (by rw [view_len]; exact hj)]
  cases t with
  | zero =>
    simp only [view]
    rw [classOf_same (by rw [vkeys_len]; exact hi) (by rw [vkeys_len]; exact hj), vkeys_at, vkeys_at]
  | succ t =>
    simp only [view]
    rw [classOf_same (by rw [vkeys_len]; exact hi) (by rw [vkeys_len]; exact hj), vkeys_at, vkeys_at]
theorem vkey_some {ends : Ends} {inputs : List Int} {c : List Int} {i j : Nat} : vkey ends inputs (some c) i = vkey ends inputs (some c) j ↔
    (ends.getD i []).length = (ends.getD j []).length ∧ inputs.getD i 0 = inputs.getD j 0 ∧ (ends.getD i []).map (fun e => (e.2, c.getD e.1.toNat 0)) = (ends.getD j []).map (fun e => (e.2, c.getD e.1.toNat 0)) := by
  simp only [vkey, Prod.mk.injEq]
  constructor
  · rintro ⟨h1, h2, h3⟩; exact ⟨by omega, h2, h3⟩
  · rintro ⟨h1, h2, h3⟩; exact ⟨by omega, h2, h3⟩
theorem map_coarse {ends : Ends} (hk : EndsOk ends) {c d : List Int} (hf : ∀ i j, i < ends.length → j < ends.length → c.getD i 0 = c.getD j 0 → d.getD i 0 = d.getD j 0) {r s : List (Int × Int)} (hr : ∀ e ∈ r, e.1.toNat < ends.length) (hs : ∀ e ∈ s, e.1.toNat < ends.length)
    (h : r.map (fun e => (e.2, c.getD e.1.toNat 0)) = s.map (fun e => (e.2, c.getD e.1.toNat 0))) : r.map (fun e => (e.2, d.getD e.1.toNat 0)) = s.map (fun e => (e.2, d.getD e.1.toNat 0)) := by
  have hl : r.length = s.length := by have := congrArg List.length h; simpa using this
  apply List.ext_getElem (by simpa using hl)
  intro i h1 h2
  simp only [List.length_map] at h1 h2
  have e : (r.map (fun e => (e.2, c.getD e.1.toNat 0)))[i]'(by simpa using h1) = (s.map (fun e => (e.2, c.getD e.1.toNat 0)))[i]'(by simpa using h2) := by simp only [h]
  simp only [List.getElem_map, Prod.mk.injEq] at e ⊢
  exact ⟨e.1, hf _ _ (hr _ (List.getElem_mem h1)) (hs _ (List.getElem_mem h2)) e.2⟩
theorem row_ok {ends : Ends} (hk : EndsOk ends) (i : Nat) : ∀ e ∈ ends.getD i [], e.1.toNat < ends.length := by
  intro e he
  by_cases h : i < ends.length
  · rw [getD_eq h] at he; exact (hk _ (List.getElem_mem h) e he).2
  · simp [List.getD, List.getElem?_eq_none (Nat.le_of_not_lt h)] at he
theorem view_finer {ends : Ends} {inputs : List Int} (hk : EndsOk ends) (t : Nat) : ∀ i j, i < ends.length → j < ends.length → (view ends inputs (t + 1)).getD i 0 = (view ends inputs (t + 1)).getD j 0 → (view ends inputs t).getD i 0 = (view ends inputs t).getD j 0 := by
  induction t with
  | zero =>
    intro i j hi hj h
    rw [view_same hi hj] at h ⊢
    obtain ⟨h1, h2, _⟩ := vkey_some.1 h
    simp only [vkey, Prod.mk.injEq, and_true]
    exact ⟨by omega, h2⟩
  | succ t ih =>
    intro i j hi hj h
    rw [view_same hi hj] at h ⊢
    obtain ⟨h1, h2, h3⟩ := vkey_some.1 h
    exact vkey_some.2 ⟨h1, h2, map_coarse hk ih (row_ok hk i) (row_ok hk j) h3⟩
theorem view_can (ends : Ends) (inputs : List Int) (t : Nat) : Can (view ends inputs t) := by cases t <;> exact classOf_can _
/-- The number of classes. -/
noncomputable def vcnt (ends : Ends) (inputs : List Int) (t : Nat) : Nat := fc (view ends inputs t) ends.length
theorem vcnt_mono {ends : Ends} {inputs : List Int} (hk : EndsOk ends) (t : Nat) : vcnt ends inputs t ≤ vcnt ends inputs (t + 1) := by
  have := fc_finer (X := view ends inputs (t + 1)) (Y := view ends inputs t) (by rw [view_len, view_len]) (by rw [view_len]; exact view_finer hk t)
  rw [view_len, view_len] at this
  exact this
theorem vcnt_le (ends : Ends) (inputs : List Int) (t : Nat) : vcnt ends inputs t ≤ ends.length := fc_le _ _
theorem view_stop {ends : Ends} {inputs : List Int} (hk : EndsOk ends) {t : Nat} (h : vcnt ends inputs (t + 1) = vcnt ends inputs t) : view ends inputs (t + 1) = view ends inputs t := by
  apply can_eq (by rw [view_len, view_len]) (view_can _ _ _) (view_can _ _ _) (by rw [view_len]; exact view_finer hk t)
  rw [view_len, view_len]; exact h
theorem view_fix {ends : Ends} {inputs : List Int} {t : Nat} (h : view ends inputs (t + 1) = view ends inputs t) (j : Nat) : view ends inputs (t + j) = view ends inputs t := by
  induction j with
  | zero => rfl
  | succ j ih => rw [← Nat.add_assoc, view, ih]; rw [view] at h; exact h
/-! ### Keys as arrays -/
def lkey (l : List Int) : Value := .agg (l.map VI).toArray
theorem lkey_inj : ∀ x y, lkey x = lkey y → x = y := by
  intro x y h
  have h1 : (x.map VI).toArray = (y.map VI).toArray := by injection h
  have h2 : x.map VI = y.map VI := by simpa using h1
  exact List.map_inj_right (fun a b e => by injection e) |>.1 h2
/-- Degree, input, the ports and the classes, then zeros: 14 numbers. -/
def kcells (d i : Int) (ps : List (Int × Int)) : List Int := d :: i :: (ps.flatMap (fun p => [p.1, p.2]) ++ List.replicate (12 - 2 * ps.length) 0)
theorem flat2_len (ps : List (Int × Int)) : (ps.flatMap (fun p => [p.1, p.2])).length = 2 * ps.length := by
  induction ps with
  | nil => rfl
  | cons p r ih => simp [ih]; omega
theorem kcells_len {d i : Int} {ps : List (Int × Int)} (h : ps.length ≤ 6) : (kcells d i ps).length = 14 := by
  simp only [kcells, List.length_cons, List.length_append, flat2_len, List.length_replicate]; omega
theorem kcells_step {d i p q : Int} {ps : List (Int × Int)} {m n : Nat} (h : ps.length < 6) (hm : m = 2 + 2 * ps.length) (hn : n = 3 + 2 * ps.length) : ((kcells d i ps).set m p).set n q = kcells d i (ps ++ [(p, q)]) := by
  subst hm hn
  have e1 : 12 - 2 * ps.length = (12 - 2 * (ps.length + 1)) + 1 + 1 := by omega
  have hl := flat2_len ps
  simp only [kcells, List.length_append, List.length_cons, List.length_nil, List.flatMap_append]
  rw [show 2 + 2 * ps.length = (2 * ps.length) + 1 + 1 by omega, show 3 + 2 * ps.length = (2 * ps.length + 1) + 1 + 1 by omega]
  simp only [List.set_cons_succ]
  congr 2
  rw [e1, List.replicate_succ, List.replicate_succ]
  rw [List.set_append_right _ _ (by omega), List.set_append_right _ _ (by omega), hl, Nat.sub_self, show 2 * ps.length + 1 - 2 * ps.length = 1 by omega]
  simp
def kcv (k : VKey) : List Int := kcells k.1 k.2.1 k.2.2
theorem kcells_inj {d d' i i' : Int} {ps qs : List (Int × Int)} (hl : ps.length = qs.length) (h : kcells d i ps = kcells d' i' qs) : d = d' ∧ i = i' ∧ ps = qs := by
  simp only [kcells, List.cons.injEq] at h
  refine ⟨h.1, h.2.1, ?_⟩
  have h2 := (List.append_inj h.2.2 (by rw [flat2_len, flat2_len, hl])).1
  clear h
  induction ps generalizing qs with
  | nil => cases qs with
    | nil => rfl
    | cons q r => simp at hl
  | cons p r ih => cases qs with
    | nil => simp at hl
    | cons q s =>
      simp only [List.flatMap_cons, List.cons_append, List.nil_append, List.cons.injEq] at h2
      rw [ih (by simpa using hl) h2.2.2]
      congr 1
      exact Prod.ext h2.1 h2.2.1
theorem classOf_map {κ ι : Type} [DecidableEq κ] [DecidableEq ι] (f : κ → ι) {ks : List κ} (h : ∀ x ∈ ks, ∀ y ∈ ks, f x = f y → x = y) : classOf (ks.map f) = classOf ks := by
  have hl : (classOf (ks.map f)).length = (classOf ks).length := by simp [classOf_len]
  have hs : ∀ i j, i < ks.length → j < ks.length → ((classOf (ks.map f)).getD i 0 = (classOf (ks.map f)).getD j 0 ↔ (classOf ks).getD i 0 = (classOf ks).getD j 0) := by
    intro i j hi hj
    rw [getD_eq (by rw [classOf_len]; simpa using hi), getD_eq (by rw [classOf_len]; simpa using hj), getD_eq (by rw [classOf_len]; exact hi), getD_eq (by rw [classOf_len]; exact hj)]
    rw [classOf_same (by simpa using hi) (by simpa using hj), classOf_same hi hj]
    simp only [List.getElem_map]
    exact ⟨fun e => h _ (List.getElem_mem hi) _ (List.getElem_mem hj) e, fun e => by rw [e]⟩
  have hnw : ∀ i, i < ks.length → (Fst1 (classOf (ks.map f)) i ↔ Fst1 (classOf ks) i) := fun i hi =>
    ⟨fun h1 j hj e => h1 j hj ((hs j i (by omega) hi).2 e), fun h1 j hj e => h1 j hj ((hs j i (by omega) hi).1 e)⟩
  have hfc : ∀ i, i ≤ ks.length → fc (classOf (ks.map f)) i = fc (classOf ks) i := by
    intro i
    induction i with
    | zero => intro _; simp [fc]
    | succ i ih =>
      intro hi
      have := ih (by omega)
      by_cases hn : Fst1 (classOf ks) i
      · rw [fc_succ_new hn, fc_succ_new ((hnw i (by omega)).2 hn), this]
      · rw [fc_succ_old hn, fc_succ_old (fun h2 => hn ((hnw i (by omega)).1 h2)), this]
  refine can_eq hl (classOf_can _) (classOf_can _) (fun i j hi hj e => (hs i j (by simpa [classOf_len] using hi) (by simpa [classOf_len] using hj)).1 e) ?_
  rw [classOf_len, classOf_len, List.length_map]
  exact hfc _ (Nat.le_refl _)
end Go.Proofs.Ytmdmpapdjgcchaa
