/- Lists that the laws on distances and on maps speak of. No condition. -/
import Derived.Test.YtdpdjbfjjlpfgaaGreatDoorBfs
import Derived.Test.YtdpdjbfjjlpfgaaGreatDoorAuto
namespace Go.Proofs.YtdpdjbfjjlpfgaaGreatDoor
open Go Go.RowKit

/-! ### Places that meet a bound -/
def inB (n lo hi : Int) : Bool := decide (lo ≤ n) && decide (n ≤ hi)
/-- The places before i whose number lies from b to r. -/
def ballN (ds : List Int) (b r : Int) (i : Nat) : List Int := ((List.range i).filter fun j => inB (ds.getD j 0) b r).map fun (j : Nat) => (j : Int)
theorem ballN_zero (ds : List Int) (b r : Int) : ballN ds b r 0 = [] := rfl
theorem ballN_yes {ds : List Int} {b r : Int} {i : Nat} (h : i < ds.length) (hp : inB ds[i] b r = true) : ballN ds b r i ++ [(i : Int)] = ballN ds b r (i + 1) := by
  unfold ballN
  rw [List.range_succ, List.filter_append, List.map_append]
  simp [List.getD, List.getElem?_eq_getElem h, hp]
theorem ballN_no {ds : List Int} {b r : Int} {i : Nat} (h : i < ds.length) (hp : inB ds[i] b r = false) : ballN ds b r i = ballN ds b r (i + 1) := by
  unfold ballN
  rw [List.range_succ, List.filter_append, List.map_append]
  simp [List.getD, List.getElem?_eq_getElem h, hp]
theorem ballN_len (ds : List Int) (b r : Int) (i : Nat) : (ballN ds b r i).length ≤ i := by
  unfold ballN
  rw [List.length_map]
  exact Nat.le_trans (List.length_filter_le _ _) (by simp)
theorem ballN_head (ds : List Int) (b r : Int) (i : Nat) : (ballN ds b r i).head? = ((List.range i).find? fun j => inB (ds.getD j 0) b r).map fun (j : Nat) => (j : Int) := by
  unfold ballN
  rw [List.head?_map, List.head?_filter]

/-! ### How often each number occurs -/
def shlX (o : List Int) (d : Int) : List Int := if 0 ≤ d then o.set d.toNat (o.getD d.toNat 0 + 1) else o
def shlN (n : Nat) (ds : List Int) (i : Nat) : List Int := (ds.take i).foldl shlX (List.replicate n 0)
theorem shlN_zero (n : Nat) (ds : List Int) : shlN n ds 0 = List.replicate n 0 := rfl
theorem shlN_succ {n : Nat} {ds : List Int} {i : Nat} (h : i < ds.length) : shlN n ds (i + 1) = shlX (shlN n ds i) ds[i] := by
  unfold shlN
  rw [List.take_succ_eq_append_getElem h, List.foldl_append]
  rfl
theorem shlX_len (o : List Int) (d : Int) : (shlX o d).length = o.length := by unfold shlX; split <;> simp
theorem shlN_len (n : Nat) (ds : List Int) : ∀ i, (shlN n ds i).length = n := by
  intro i
  unfold shlN
  generalize hl : ds.take i = l
  have : ∀ (l o : List Int), (l.foldl shlX o).length = o.length := by
    intro l
    induction l with
    | nil => intro o; rfl
    | cons x r ih => intro o; rw [List.foldl_cons, ih, shlX_len]
  rw [this]; simp
theorem shlN_yes {n : Nat} {ds : List Int} {i : Nat} (h : i < ds.length) (h0 : 0 ≤ ds[i]) {h2 : ds[i].toNat < (shlN n ds i).length} : (shlN n ds i).set ds[i].toNat ((shlN n ds i)[ds[i].toNat] + 1) = shlN n ds (i + 1) := by
  rw [shlN_succ h, shlX, if_pos h0, getD_eq h2]
theorem shlN_no {n : Nat} {ds : List Int} {i : Nat} (h : i < ds.length) (h0 : ¬ 0 ≤ ds[i]) : shlN n ds i = shlN n ds (i + 1) := by
  rw [shlN_succ h, shlX, if_neg h0]
theorem shlN_rng {n : Nat} {ds : List Int} : ∀ (i : Nat), i ≤ ds.length → ∀ x ∈ shlN n ds i, 0 ≤ x ∧ x ≤ (i : Int) := by
  intro i
  induction i with
  | zero => intro _ x hx; rw [shlN_zero, List.mem_replicate] at hx; omega
  | succ i ih =>
    intro hi x hx
    have ih := ih (by omega)
    rw [shlN_succ (show i < ds.length by omega), shlX] at hx
    split at hx
    · rcases List.mem_or_eq_of_mem_set hx with h | h
      · have := ih x h; omega
      · subst h
        by_cases hb : (ds[i]'(by omega)).toNat < (shlN n ds i).length
        · rw [getD_eq hb]; have := ih _ (List.getElem_mem hb); omega
        · simp [List.getD, List.getElem?_eq_none (Nat.le_of_not_lt hb)]; omega
    · have := ih x hx; omega
theorem shlN_at {n : Nat} {ds : List Int} {i j : Nat} (hi : i ≤ ds.length) (h : j < (shlN n ds i).length) : 0 ≤ (shlN n ds i)[j] ∧ (shlN n ds i)[j] ≤ (i : Int) := shlN_rng i hi _ (List.getElem_mem h)

/-! ### Components -/
/-- The least node before i that reaches each node, or -1. -/
def cmpN (ends : Ends) (i : Nat) : List Int := (List.range ends.length).map fun w => (((List.range i).find? fun (u : Nat) => decide (0 ≤ (bfs ends (u : Int)).getD w 0)).map fun (u : Nat) => (u : Int)).getD (-1)
theorem cmpN_len (ends : Ends) (i : Nat) : (cmpN ends i).length = ends.length := by simp [cmpN]
theorem cmpN_zero (ends : Ends) : cmpN ends 0 = List.replicate ends.length (-1) := by
  refine List.ext_getElem (by simp [cmpN]) fun j h1 h2 => ?_
  simp [cmpN]
theorem cmpN_at {ends : Ends} {i w : Nat} (h : w < (cmpN ends i).length) : (cmpN ends i)[w] = (((List.range i).find? fun (u : Nat) => decide (0 ≤ (bfs ends (u : Int)).getD w 0)).map fun (u : Nat) => (u : Int)).getD (-1) := by simp [cmpN]
/-- The same after k nodes of the round of i. -/
def cmpK (ends : Ends) (i k : Nat) : List Int := (List.range ends.length).map fun w => if w < k ∧ 0 ≤ (bfs ends (i : Int)).getD w 0 then (i : Int) else (cmpN ends i).getD w 0
theorem cmpK_len (ends : Ends) (i k : Nat) : (cmpK ends i k).length = ends.length := by simp [cmpK]
theorem cmpK_zero (ends : Ends) (i : Nat) : cmpK ends i 0 = cmpN ends i := by
  refine List.ext_getElem (by simp [cmpK, cmpN]) fun j h1 h2 => ?_
  simp only [cmpK, List.getElem_map, List.getElem_range]
  rw [if_neg (by omega), getD_eq h2]
theorem cmpK_yes {ends : Ends} {i k : Nat} (hd : 0 ≤ (bfs ends (i : Int)).getD k 0) : (cmpK ends i k).set k (i : Int) = cmpK ends i (k + 1) := by
  refine List.ext_getElem (by simp [cmpK]) fun j h1 h2 => ?_
  rw [List.getElem_set]
  simp only [cmpK, List.getElem_map, List.getElem_range]
  by_cases hj : k = j
  · subst hj; rw [if_pos rfl, if_pos ⟨by omega, hd⟩]
  · rw [if_neg hj]
    by_cases h3 : j < k ∧ 0 ≤ (bfs ends (i : Int)).getD j 0
    · rw [if_pos h3, if_pos ⟨by omega, h3.2⟩]
    · rw [if_neg h3, if_neg (fun h4 => h3 ⟨by omega, h4.2⟩)]
theorem cmpK_no {ends : Ends} {i k : Nat} (hd : ¬ 0 ≤ (bfs ends (i : Int)).getD k 0) : cmpK ends i k = cmpK ends i (k + 1) := by
  refine List.ext_getElem (by simp [cmpK]) fun j h1 h2 => ?_
  simp only [cmpK, List.getElem_map, List.getElem_range]
  by_cases h3 : j < k ∧ 0 ≤ (bfs ends (i : Int)).getD j 0
  · rw [if_pos h3, if_pos ⟨by omega, h3.2⟩]
  · rw [if_neg h3, if_neg (fun h4 => h3 ⟨by
      rcases Nat.lt_or_ge j k with h | h
      · exact h
      · have : j = k := by omega
        subst this; exact absurd h4.2 hd, h4.2⟩)]
/-- A walk leads from u to w. -/
theorem reach_iff {ends : Ends} (hk : EndsOk ends) {u w : Nat} (hu : u < ends.length) (hw : w < ends.length) : 0 ≤ (bfs ends (u : Int)).getD w 0 ↔ ∃ n, Walk ends n (u : Int) (w : Int) := by
  constructor
  · intro h
    exact ⟨_, bfs_walk hk (by omega) (by simpa using hu) hw h⟩
  · rintro ⟨n, h⟩
    have := (bfs_least hk (by omega) (by simpa using hu) h).1
    simpa using this
theorem reach_symm {ends : Ends} (hk : EndsOk ends) (hs : SymE ends) {u w : Nat} (hu : u < ends.length) (hw : w < ends.length) : 0 ≤ (bfs ends (u : Int)).getD w 0 ↔ 0 ≤ (bfs ends (w : Int)).getD u 0 := by
  rw [reach_iff hk hu hw, reach_iff hk hw hu]
  exact ⟨fun ⟨n, h⟩ => ⟨n, h.symm hk hs⟩, fun ⟨n, h⟩ => ⟨n, h.symm hk hs⟩⟩
theorem reach_trans {ends : Ends} (hk : EndsOk ends) {u v w : Nat} (hu : u < ends.length) (hv : v < ends.length) (hw : w < ends.length) (h1 : 0 ≤ (bfs ends (u : Int)).getD v 0) (h2 : 0 ≤ (bfs ends (v : Int)).getD w 0) : 0 ≤ (bfs ends (u : Int)).getD w 0 := by
  rw [reach_iff hk hu hv] at h1
  rw [reach_iff hk hv hw] at h2
  rw [reach_iff hk hu hw]
  obtain ⟨n, h1⟩ := h1
  obtain ⟨m, h2⟩ := h2
  exact ⟨_, h1.trans h2⟩
theorem reach_self {ends : Ends} (hk : EndsOk ends) {u : Nat} (hu : u < ends.length) : 0 ≤ (bfs ends (u : Int)).getD u 0 := by
  have := bfs_src hk (v := (u : Int)) (by omega) (by simpa using hu)
  simp only [Int.toNat_natCast] at this
  omega
theorem find_none {p : Nat → Bool} {i : Nat} (h : ∀ u, u < i → p u = false) : (List.range i).find? p = none := List.find?_eq_none.2 fun u hu => by rw [h u (List.mem_range.1 hu)]; simp
theorem find_cast_neg {p : Nat → Bool} {i : Nat} (h : (((List.range i).find? p).map fun (u : Nat) => (u : Int)).getD (-1) < 0) : ∀ u, u < i → p u = false := by
  cases e : (List.range i).find? p with
  | none =>
    intro u hu
    have := List.find?_eq_none.1 e u (List.mem_range.2 hu)
    simpa using this
  | some x => rw [e] at h; simp at h; omega
theorem find_cast_pos {p : Nat → Bool} {i : Nat} (h : 0 ≤ (((List.range i).find? p).map fun (u : Nat) => (u : Int)).getD (-1)) : ∃ u, u < i ∧ p u = true ∧ (List.range i).find? p = some u := by
  cases e : (List.range i).find? p with
  | none => rw [e] at h; simp at h
  | some x => exact ⟨x, List.mem_range.1 (List.mem_of_find?_eq_some e), List.find?_some e, rfl⟩
theorem find_succ_some {p : Nat → Bool} {i u : Nat} (h : (List.range i).find? p = some u) : (List.range (i + 1)).find? p = some u := by rw [List.range_succ, List.find?_append, h]; rfl
/-- A node that a node before it reaches tells nothing new. -/
theorem cmpN_skip {ends : Ends} (hk : EndsOk ends) {i : Nat} (hi : i < ends.length) (h2 : i < (cmpN ends i).length) (h : 0 ≤ (cmpN ends i)[i]) : cmpN ends i = cmpN ends (i + 1) := by
  rw [cmpN_at] at h
  obtain ⟨u, hu, hp, _⟩ := find_cast_pos h
  refine List.ext_getElem (by simp [cmpN]) fun w h3 h4 => ?_
  have hw : w < ends.length := by rw [cmpN_len] at h3; exact h3
  rw [cmpN_at, cmpN_at]
  cases e : (List.range i).find? fun (u : Nat) => decide (0 ≤ (bfs ends (u : Int)).getD w 0) with
  | some x => rw [find_succ_some e]
  | none =>
    rw [List.range_succ, List.find?_append, e, Option.none_or, List.find?_cons_of_neg, List.find?_nil]
    intro hd
    have h5 := List.find?_eq_none.1 e u (List.mem_range.2 hu)
    refine h5 (decide_eq_true ?_)
    exact reach_trans hk (by omega) hi hw (of_decide_eq_true hp) (of_decide_eq_true hd)
/-- A node that none before it reaches names its component. -/
theorem cmpN_name {ends : Ends} (hk : EndsOk ends) (hs : SymE ends) {i k : Nat} (hi : i < ends.length) (h2 : i < (cmpN ends i).length) (h : ¬ 0 ≤ (cmpN ends i)[i]) (hkl : ends.length ≤ k) : cmpK ends i k = cmpN ends (i + 1) := by
  rw [cmpN_at] at h
  have hn := find_cast_neg (Int.not_le.1 h)
  refine List.ext_getElem (by simp [cmpN, cmpK]) fun w h3 h4 => ?_
  have hw : w < ends.length := by rw [cmpK_len] at h3; exact h3
  rw [cmpN_at]
  simp only [cmpK, List.getElem_map, List.getElem_range]
  rw [List.range_succ, List.find?_append]
  by_cases hr : 0 ≤ (bfs ends (i : Int)).getD w 0
  · rw [if_pos ⟨by omega, hr⟩]
    rw [find_none (p := fun (u : Nat) => decide (0 ≤ (bfs ends (u : Int)).getD w 0)) fun u hu => by
      refine decide_eq_false fun h5 => ?_
      have h6 := of_decide_eq_false (hn u hu)
      exact h6 (reach_trans hk (by omega) hw hi h5 ((reach_symm hk hs hi hw).1 hr))]
    rw [Option.none_or, List.find?_cons_of_pos (by simpa using hr)]
    rfl
  · rw [if_neg (fun h5 => hr h5.2), List.find?_cons_of_neg (by simpa using hr), List.find?_nil, Option.or_none, getD_eq (by rw [cmpN_len]; exact hw), cmpN_at]
/-- The least node of the component of each node, as the reference says it. -/
def prt (ends : Ends) : List Int := (List.range ends.length).map fun (v : Nat) => (ballN (bfs ends (v : Int)) 0 40 ends.length).headD 0
theorem prt_len (ends : Ends) : (prt ends).length = ends.length := by simp [prt]
theorem ball_ne {ends : Ends} (hk : EndsOk ends) (h40 : ends.length ≤ 40) {v : Nat} (hv : v < ends.length) : 0 < (ballN (bfs ends (v : Int)) 0 40 ends.length).length := by
  have hr := bfs_rng hk (v := (v : Int)) (by omega) (by simpa using hv)
  have hs := reach_self hk hv
  have hl := bfs_len hk (v := (v : Int)) (by omega) (by simpa using hv)
  unfold ballN
  rw [List.length_map]
  refine List.length_pos_of_mem (a := v) (List.mem_filter.2 ⟨List.mem_range.2 hv, ?_⟩)
  have := hr _ (List.getElem_mem (show v < (bfs ends (v : Int)).length by omega))
  rw [getD_eq (show v < (bfs ends (v : Int)).length by omega)] at hs ⊢
  simp [inB]; omega
theorem head_get {l : List Int} (h : 0 < l.length) : l[0] = l.headD 0 := by
  cases l with
  | nil => simp at h
  | cons x r => rfl
theorem find_congr {α : Type} {p q : α → Bool} : ∀ {l : List α}, (∀ x ∈ l, p x = q x) → l.find? p = l.find? q
  | [], _ => rfl
  | x :: r, h => by rw [List.find?_cons, List.find?_cons, h x (List.mem_cons_self ..), find_congr fun y hy => h y (List.mem_cons_of_mem _ hy)]
theorem prt_at {ends : Ends} {v : Nat} (h : v < (prt ends).length) {h2 : 0 < (ballN (bfs ends (v : Int)) 0 40 ends.length).length} : (ballN (bfs ends (v : Int)) 0 40 ends.length)[0] = (prt ends)[v] := by
  simp only [prt, List.getElem_map, List.getElem_range]
  exact head_get h2
theorem cmp_prt {ends : Ends} (hk : EndsOk ends) (hs : SymE ends) (h40 : ends.length ≤ 40) : cmpN ends ends.length = prt ends := by
  refine List.ext_getElem (by simp [cmpN, prt]) fun w h1 h2 => ?_
  have hw : w < ends.length := by rw [cmpN_len] at h1; exact h1
  rw [cmpN_at]
  simp only [prt, List.getElem_map, List.getElem_range]
  rw [List.headD_eq_head?_getD, ballN_head]
  have e : (List.range ends.length).find? (fun (u : Nat) => decide (0 ≤ (bfs ends (u : Int)).getD w 0)) = (List.range ends.length).find? (fun j => inB ((bfs ends (w : Int)).getD j 0) 0 40) := by
    refine find_congr fun u hu => ?_
    have hu := List.mem_range.1 hu
    have hl := bfs_len hk (v := (w : Int)) (by omega) (by simpa using hw)
    have hr := bfs_rng hk (v := (w : Int)) (by omega) (by simpa using hw) _ (List.getElem_mem (show u < (bfs ends (w : Int)).length by omega))
    have hq := reach_symm hk hs hu hw
    rw [getD_eq (show u < (bfs ends (w : Int)).length by omega)] at hq ⊢
    by_cases h : 0 ≤ (bfs ends (w : Int))[u]
    · rw [decide_eq_true (hq.2 h), inB, decide_eq_true h, decide_eq_true (show (bfs ends (w : Int))[u] ≤ 40 by omega)]; rfl
    · rw [decide_eq_false (fun h9 => h (hq.1 h9)), inB, decide_eq_false h]; rfl
  rw [e]
  cases e2 : (List.range ends.length).find? (fun j => inB ((bfs ends (w : Int)).getD j 0) 0 40) with
  | some x => rfl
  | none =>
    have h3 := ball_ne hk h40 hw
    have h4 := ballN_head (bfs ends (w : Int)) 0 40 ends.length
    rw [e2] at h4
    cases e3 : ballN (bfs ends (w : Int)) 0 40 ends.length with
    | nil => rw [e3] at h3; simp at h3
    | cons x r => rw [e3] at h4; simp at h4
theorem prt_rng {ends : Ends} (hk : EndsOk ends) (hs : SymE ends) (h40 : ends.length ≤ 40) {v : Nat} (hv : v < ends.length) {h : v < (prt ends).length} : 0 ≤ (prt ends)[v] ∧ (prt ends)[v].toNat < ends.length ∧ 0 ≤ (bfs ends (prt ends)[v]).getD v 0 := by
  have e := cmp_prt hk hs h40
  have h2 : v < (cmpN ends ends.length).length := by rw [cmpN_len]; exact hv
  have e2 : (prt ends)[v] = (cmpN ends ends.length)[v] := by simp only [e]
  have hp : 0 ≤ (cmpN ends ends.length)[v] := by
    rw [cmpN_at]
    cases e3 : (List.range ends.length).find? fun (u : Nat) => decide (0 ≤ (bfs ends (u : Int)).getD v 0) with
    | some x => simp
    | none =>
      have := List.find?_eq_none.1 e3 v (List.mem_range.2 hv)
      exact absurd (decide_eq_true (reach_self hk hv)) this
  rw [cmpN_at] at hp
  obtain ⟨u, hu, hpu, e4⟩ := find_cast_pos hp
  rw [e2, cmpN_at, e4]
  have := of_decide_eq_true hpu
  refine ⟨by simp, by simpa using hu, by simpa using this⟩

/-! ### Places of the least number -/
def cenN (E : List Int) (m : Int) (i : Nat) : List Int := ((List.range i).filter fun j => decide (E.getD j 0 = m)).map fun (j : Nat) => (j : Int)
theorem cenN_yes {E : List Int} {m : Int} {i : Nat} (h : i < E.length) (hp : E[i] = m) : cenN E m i ++ [(i : Int)] = cenN E m (i + 1) := by
  unfold cenN
  rw [List.range_succ, List.filter_append, List.map_append]
  simp [List.getD, List.getElem?_eq_getElem h, hp]
theorem cenN_no {E : List Int} {m : Int} {i : Nat} (h : i < E.length) (hp : ¬ E[i] = m) : cenN E m i = cenN E m (i + 1) := by
  unfold cenN
  rw [List.range_succ, List.filter_append, List.map_append]
  simp [List.getD, List.getElem?_eq_getElem h, hp]
theorem cenN_len (E : List Int) (m : Int) (i : Nat) : (cenN E m i).length ≤ i := by
  unfold cenN
  rw [List.length_map]
  exact Nat.le_trans (List.length_filter_le _ _) (by simp)
def mnN (b : Int) (E : List Int) (i : Nat) : Int := (E.take i).foldl min b
theorem mnN_succ {b : Int} {E : List Int} {i : Nat} (h : i < E.length) : mnN b E (i + 1) = min (mnN b E i) E[i] := by
  unfold mnN; rw [List.take_succ_eq_append_getElem h, List.foldl_append]; rfl
theorem foldl_min_le (r : List Int) : ∀ a : Int, r.foldl min a ≤ a ∧ ∀ x ∈ r, r.foldl min a ≤ x := by
  induction r with
  | nil => intro a; exact ⟨Int.le_refl _, fun x hx => by simp at hx⟩
  | cons y r ih =>
    intro a
    obtain ⟨h1, h2⟩ := ih (min a y)
    rw [List.foldl_cons]
    refine ⟨by omega, fun x hx => ?_⟩
    rcases List.mem_cons.1 hx with rfl | hx
    · omega
    · exact h2 x hx
theorem mnN_le {b : Int} {E : List Int} {i j : Nat} (hj : j < i) (h : j < E.length) : mnN b E i ≤ E[j] := by
  have : E[j] ∈ E.take i := List.mem_take_iff_getElem.2 ⟨j, by omega, rfl⟩
  exact (foldl_min_le _ _).2 _ this
theorem cenN_new {b : Int} {E : List Int} {i : Nat} (h : i < E.length) (hp : E[i] < mnN b E i) : cenN E E[i] i = [] := by
  unfold cenN
  rw [List.map_eq_nil_iff, List.filter_eq_nil_iff]
  intro j hj
  have hj := List.mem_range.1 hj
  have := mnN_le (b := b) hj (show j < E.length by omega)
  rw [getD_eq (show j < E.length by omega)]
  simp; omega
def lmin (xs : List Int) : Int := match xs with | [] => 0 | x :: r => r.foldl min x
theorem lmin_take {xs : List Int} {i : Nat} (h0 : 0 < i) (hi : i < xs.length) : min (lmin (xs.take i)) xs[i] = lmin (xs.take (i + 1)) := by
  cases xs with
  | nil => simp at hi
  | cons x r =>
    obtain ⟨k, rfl⟩ : ∃ k, i = k + 1 := ⟨i - 1, by omega⟩
    simp only [List.take_succ_cons, lmin, List.getElem_cons_succ]
    rw [List.take_succ_eq_append_getElem (by simpa using hi), List.foldl_append]
    rfl
theorem lmin_one {xs : List Int} (h : 0 < xs.length) : xs[0] = lmin (xs.take 1) := by
  cases xs with
  | nil => simp at h
  | cons x r => rfl
theorem mnN_all {b : Int} {E : List Int} (h : 0 < E.length) (hb : E[0] ≤ b) : mnN b E E.length = lmin E := by
  cases E with
  | nil => simp at h
  | cons x r =>
    unfold mnN
    rw [List.take_length, List.foldl_cons]
    simp only [List.getElem_cons_zero] at hb
    rw [show min b x = x by omega]
    rfl

/-! ### Steps toward a root -/
/-- The least port of a node that leads to a node one nearer, or -1. -/
def twd (ends : Ends) (ds : List Int) (v : Nat) : Int := match (near ends (v : Int)).findIdx? (fun x => decide (0 < ds.getD v 0) && decide (ds.getD x.toNat 0 = ds.getD v 0 - 1)) with | some i => i | none => -1
def spanL (ends : Ends) (ds : List Int) : List Int := (List.range ends.length).map (twd ends ds)
theorem spanL_len (ends : Ends) (ds : List Int) : (spanL ends ds).length = ends.length := by simp [spanL]
theorem spanL_at {ends : Ends} {ds : List Int} {v : Nat} (h : v < (spanL ends ds).length) : (spanL ends ds)[v] = twd ends ds v := by simp [spanL]
/-- A nearer node lies beside each node but the root. -/
theorem bfs_back {ends : Ends} (hk : EndsOk ends) (hs : SymE ends) {r : Int} (h0 : 0 ≤ r) (h1 : r.toNat < ends.length) {v : Nat} (hv : v < ends.length) (hd : 0 < (bfs ends r).getD v 0) :
    ∃ y ∈ near ends (v : Int), (bfs ends r).getD y.toNat 0 = (bfs ends r).getD v 0 - 1 := by
  have hw := bfs_walk hk h0 h1 hv (by omega)
  generalize hn : ((bfs ends r).getD v 0).toNat = n at hw
  generalize hz : (v : Int) = z at hw
  cases hw with
  | nil => omega
  | snoc h2 h3 =>
    rename_i m y
    subst hz
    have hy := h2.rng hk
    refine ⟨y, hs y _ hy.1 hy.2 h3, ?_⟩
    have h4 := bfs_least hk h0 h1 h2
    have h5 := bfs_walk hk h0 h1 hy.2 h4.1
    rw [Int.toNat_of_nonneg hy.1] at h5
    have h6 := bfs_least hk h0 h1 (Walk.snoc h5 h3)
    simp only [Int.toNat_natCast] at h6
    omega
theorem bfs_zero {ends : Ends} (hk : EndsOk ends) {r : Int} (h0 : 0 ≤ r) (h1 : r.toNat < ends.length) {v : Nat} (hv : v < ends.length) (hd : (bfs ends r).getD v 0 = 0) : (v : Int) = r := by
  have hw := bfs_walk hk h0 h1 hv (by omega)
  rw [hd] at hw
  generalize hz : (v : Int) = z at hw
  cases hw with
  | nil => rfl
theorem twd_ok {ends : Ends} (hk : EndsOk ends) (hs : SymE ends) {r : Int} (h0 : 0 ≤ r) (h1 : r.toNat < ends.length) {v : Nat} (hv : v < ends.length) (hd : 0 < (bfs ends r).getD v 0) :
    0 ≤ twd ends (bfs ends r) v ∧ ∃ h2 : (twd ends (bfs ends r) v).toNat < ends[v].length, (bfs ends r).getD (ends[v][(twd ends (bfs ends r) v).toNat].1).toNat 0 = (bfs ends r).getD v 0 - 1 := by
  obtain ⟨y, hy, e⟩ := bfs_back hk hs h0 h1 hv hd
  have hg : near ends (v : Int) = (ends[v]).map Prod.fst := by have := near_get (ends := ends) (w := (v : Int)) (by simpa using hv); simpa using this
  unfold twd
  cases hf : (near ends (v : Int)).findIdx? (fun x => decide (0 < (bfs ends r).getD v 0) && decide ((bfs ends r).getD x.toNat 0 = (bfs ends r).getD v 0 - 1)) with
  | none =>
    have h8 := List.findIdx?_eq_none_iff.1 hf y hy
    have h9 : (decide (0 < (bfs ends r).getD v 0) && decide ((bfs ends r).getD y.toNat 0 = (bfs ends r).getD v 0 - 1)) = true := by simp only [e, hd, decide_true, Bool.and_self]
    exact absurd (h8.symm.trans h9) (by simp)
  | some i =>
    obtain ⟨hi, hp, _⟩ := List.findIdx?_eq_some_iff_getElem.1 hf
    have hi2 : i < ends[v].length := by rw [hg] at hi; simpa using hi
    refine ⟨by simp, by simpa using hi2, ?_⟩
    have e2 : (near ends (v : Int))[i] = ends[v][i].1 := by simp [hg]
    rw [e2] at hp
    simp only [Bool.and_eq_true, decide_eq_true_eq] at hp
    exact hp.2
theorem bfs_lt {ends : Ends} (hk : EndsOk ends) {r : Int} (h0 : 0 ≤ r) (h1 : r.toNat < ends.length) {v : Nat} (hv : v < ends.length) : -1 ≤ (bfs ends r).getD v 0 ∧ (bfs ends r).getD v 0 < ends.length := by
  have hl := bfs_len hk h0 h1
  rw [getD_eq (by omega)]
  exact bfs_rng hk h0 h1 _ (List.getElem_mem _)

/-- The walk toward the root, from v, after k steps: the node, and the ports. -/
def wayN (ends : Ends) (ds : List Int) (v : Int) : Nat → Int × List Int
  | 0 => (v, [])
  | k + 1 => (((ends.getD (wayN ends ds v k).1.toNat []).getD (twd ends ds (wayN ends ds v k).1.toNat).toNat (0, 0)).1, (wayN ends ds v k).2 ++ [twd ends ds (wayN ends ds v k).1.toNat])
theorem wayN_len (ends : Ends) (ds : List Int) (v : Int) (k : Nat) : (wayN ends ds v k).2.length = k := by
  induction k with
  | zero => rfl
  | succ k ih => simp [wayN, ih]
theorem wayN_ok {ends : Ends} (hk : EndsOk ends) (hs : SymE ends) {r v : Int} (h0 : 0 ≤ r) (h1 : r.toNat < ends.length) (hv0 : 0 ≤ v) (hv : v.toNat < ends.length) (hd : 0 ≤ (bfs ends r).getD v.toNat 0) : ∀ k : Nat, (k : Int) ≤ (bfs ends r).getD v.toNat 0 →
    0 ≤ (wayN ends (bfs ends r) v k).1 ∧ (wayN ends (bfs ends r) v k).1.toNat < ends.length ∧ (bfs ends r).getD (wayN ends (bfs ends r) v k).1.toNat 0 = (bfs ends r).getD v.toNat 0 - (k : Int) := by
  intro k
  induction k with
  | zero => intro _; exact ⟨hv0, hv, by simp [wayN]⟩
  | succ k ih =>
    intro hkd
    obtain ⟨i1, i2, i3⟩ := ih (by omega)
    obtain ⟨t1, t2, t3⟩ := twd_ok hk hs h0 h1 i2 (by omega)
    simp only [wayN]
    rw [getD_eq i2, getD_eq t2]
    have := hk _ (List.getElem_mem i2) _ (List.getElem_mem t2)
    exact ⟨this.1, this.2, by omega⟩
theorem wayN_end {ends : Ends} (hk : EndsOk ends) (hs : SymE ends) {r v : Int} (h0 : 0 ≤ r) (h1 : r.toNat < ends.length) (hv0 : 0 ≤ v) (hv : v.toNat < ends.length) (hd : 0 ≤ (bfs ends r).getD v.toNat 0) {k : Nat} (hkd : (k : Int) ≤ (bfs ends r).getD v.toNat 0) :
    (wayN ends (bfs ends r) v k).1 = r ↔ (k : Int) = (bfs ends r).getD v.toNat 0 := by
  obtain ⟨i1, i2, i3⟩ := wayN_ok hk hs h0 h1 hv0 hv hd k hkd
  constructor
  · intro e
    rw [e] at i3
    have := bfs_src hk h0 h1
    omega
  · intro e
    have := bfs_zero hk h0 h1 i2 (by omega)
    omega

/-! ### Elements at indices -/
def thr (l at_ : List Int) : List Int := at_.map fun k => l.getD k.toNat 0
theorem thr_len (l at_ : List Int) : (thr l at_).length = at_.length := by simp [thr]
theorem thr_at {l at_ : List Int} {i : Nat} (hi : i < at_.length) {h2 : at_[i].toNat < l.length} (h : i < (thr l at_).length) : (thr l at_)[i] = l[at_[i].toNat] := by simp only [thr, List.getElem_map]; exact getD_eq h2
end Go.Proofs.YtdpdjbfjjlpfgaaGreatDoor
