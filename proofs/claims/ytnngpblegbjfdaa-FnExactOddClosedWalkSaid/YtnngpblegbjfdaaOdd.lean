/- Walks of odd length: the distances with parity, and the shortest odd closed walks. -/
import Derived.Test.YtnngpblegbjfdaaDist
import Derived.Test.YtnngpblegbjfdaaBfs
namespace Go.Proofs.Ytnngpblegbjfdaa
open Go Go.RowKit

/-- Each node twice, once for each parity; edges change the parity. -/
def dbl (ends : Ends) : Ends := (List.range (2 * ends.length)).map fun x => (ends.getD (x / 2) []).map fun e => (2 * e.1 + (1 - ((x % 2 : Nat) : Int)), 0)
section
variable {ends : Ends}
theorem dbl_len : (dbl ends).length = 2 * ends.length := by simp [dbl]
theorem near_dbl {x : Int} (h0 : 0 ≤ x) (h1 : x.toNat < 2 * ends.length) : near (dbl ends) x = (near ends (x / 2)).map fun y => 2 * y + (1 - x % 2) := by
  have hx : x.toNat < (dbl ends).length := by rw [dbl_len]; exact h1
  have e1 : ((x.toNat % 2 : Nat) : Int) = x % 2 := by omega
  have e2 : (x / 2).toNat = x.toNat / 2 := by omega
  unfold near
  rw [getD_eq hx, e2]
  simp only [dbl, List.getElem_map, List.getElem_range, List.map_map, Function.comp_def, e1]
theorem dbl_ok (hk : EndsOk ends) : EndsOk (dbl ends) := by
  intro r hr e he
  obtain ⟨x, hx, rfl⟩ := List.mem_map.1 hr
  obtain ⟨e', he', rfl⟩ := List.mem_map.1 he
  have hx := List.mem_range.1 hx
  have hv : x / 2 < ends.length := by omega
  rw [getD_eq hv] at he'
  obtain ⟨h1, h2⟩ := hk _ (List.getElem_mem hv) _ he'
  rw [dbl_len]
  simp only []
  omega
theorem walk_dbl (hk : EndsOk ends) {n : Nat} {x y : Int} (h : Walk (dbl ends) n x y) : Walk ends n (x / 2) (y / 2) ∧ y % 2 = (x + n) % 2 := by
  induction h with
  | nil h0 h1 => rw [dbl_len] at h1; exact ⟨.nil (by omega) (by omega), by omega⟩
  | snoc h hz ih =>
    obtain ⟨r1, r2⟩ := h.rng (dbl_ok hk)
    rw [dbl_len] at r2
    rw [near_dbl r1 r2] at hz
    obtain ⟨z, hz1, rfl⟩ := List.mem_map.1 hz
    obtain ⟨i1, i2⟩ := ih
    refine ⟨?_, by omega⟩
    rename_i y'
    rw [show (2 * z + (1 - y' % 2)) / 2 = z by omega]
    exact i1.snoc hz1
theorem dbl_walk (hk : EndsOk ends) {n : Nat} {u v : Int} (h : Walk ends n u v) : Walk (dbl ends) n (2 * u) (2 * v + (n : Int) % 2) := by
  induction h with
  | @nil x h0 h1 =>
    have : Walk (dbl ends) 0 (2 * x) (2 * x) := Walk.nil (by omega) (by rw [dbl_len]; omega)
    simpa using this
  | @snoc n' x y z h hz ih =>
    obtain ⟨r1, r2⟩ := h.rng hk
    refine ih.snoc ?_
    rw [near_dbl (by omega) (by omega)]
    refine List.mem_map.2 ⟨z, ?_, by omega⟩
    rw [show (2 * y + (n' : Int) % 2) / 2 = y by omega]
    exact hz
/-- The least length of a walk from v to w with parity p, or -1. -/
def dpt (ends : Ends) (v w p : Nat) : Int := (bfs (dbl ends) ((2 * v : Nat) : Int)).getD (2 * w + p) 0
theorem dpt_walk (hk : EndsOk ends) {v w p : Nat} (hv : v < ends.length) (hw : w < ends.length) (hp : p < 2) (h : 0 ≤ dpt ends v w p) : Walk ends (dpt ends v w p).toNat (v : Int) (w : Int) ∧ (dpt ends v w p).toNat % 2 = p := by
  have := bfs_walk (dbl_ok hk) (v := ((2 * v : Nat) : Int)) (by omega) (by rw [dbl_len]; omega) (i := 2 * w + p) (by rw [dbl_len]; omega) h
  obtain ⟨h1, h2⟩ := walk_dbl hk this
  refine ⟨?_, by unfold dpt at *; omega⟩
  rw [show ((2 * v : Nat) : Int) / 2 = (v : Int) by omega, show ((2 * w + p : Nat) : Int) / 2 = (w : Int) by omega] at h1
  exact h1
theorem dpt_least (hk : EndsOk ends) {v w p n : Nat} (hv : v < ends.length) (h : Walk ends n (v : Int) (w : Int)) (hp : n % 2 = p) : 0 ≤ dpt ends v w p ∧ dpt ends v w p ≤ n := by
  have h1 := dbl_walk hk h
  rw [show 2 * (v : Int) = ((2 * v : Nat) : Int) by omega, show 2 * (w : Int) + (n : Int) % 2 = ((2 * w + p : Nat) : Int) by omega] at h1
  have := bfs_least (dbl_ok hk) (by omega) (by rw [dbl_len]; omega) h1
  rwa [Int.toNat_natCast] at this
theorem Walk.cons {n : Nat} {x y z : Int} (h0 : 0 ≤ x) (h1 : x.toNat < ends.length) (hz : z ∈ near ends x) (h : Walk ends n z y) : Walk ends (n + 1) x y := by
  have := ((Walk.nil h0 h1).snoc hz).trans h
  rwa [show 0 + 1 + n = n + 1 by omega] at this
theorem Walk.uncons (hk : EndsOk ends) {n : Nat} : ∀ {x y : Int}, Walk ends (n + 1) x y → ∃ z, z ∈ near ends x ∧ Walk ends n z y := by
  induction n with
  | zero =>
    intro x y h
    cases h with
    | snoc h hz =>
      obtain ⟨r1, r2⟩ := near_ok hk _ _ hz
      cases h with
      | nil h0 h1 => exact ⟨y, hz, .nil r1 r2⟩
  | succ n ih =>
    intro x y h
    cases h with
    | snoc h hz =>
      obtain ⟨z, h1, h2⟩ := ih h
      exact ⟨z, h1, h2.snoc hz⟩
/-- A walk as a function. -/
theorem walk_fun (hk : EndsOk ends) {n : Nat} {x y : Int} (h : Walk ends n x y) : ∃ f : Nat → Int, f 0 = x ∧ f n = y ∧ ∀ i j, j ≤ i → i ≤ n → Walk ends (i - j) (f j) (f i) := by
  induction h with
  | @nil x h0 h1 => exact ⟨fun _ => x, rfl, rfl, fun i j hj hi => by rw [show i - j = 0 by omega]; exact .nil h0 h1⟩
  | @snoc n x y z h hz ih =>
    obtain ⟨f, f0, fn, hf⟩ := ih
    obtain ⟨r1, r2⟩ := near_ok hk _ _ hz
    refine ⟨fun i => if i ≤ n then f i else z, (by simpa using f0), (show (if n + 1 ≤ n then f (n + 1) else z) = z from if_neg (by omega)), fun i j hj hi => ?_⟩
    show Walk ends (i - j) (if j ≤ n then f j else z) (if i ≤ n then f i else z)
    by_cases e : i ≤ n
    · rw [if_pos e, if_pos (by omega)]; exact hf i j hj e
    · have ei : i = n + 1 := by omega
      subst ei
      rw [if_neg (show ¬ n + 1 ≤ n by omega)]
      by_cases ej : j ≤ n
      · rw [if_pos ej]
        have := hf n j ej (Nat.le_refl _)
        rw [fn] at this
        have := this.snoc hz
        rwa [show n - j + 1 = n + 1 - j by omega] at this
      · rw [if_neg ej, show n + 1 - j = 0 by omega]; exact .nil r1 r2
theorem nodup_bound : ∀ (n : Nat) (l : List Int), l.Nodup → (∀ x ∈ l, 0 ≤ x ∧ x < (n : Int)) → l.length ≤ n := by
  intro n
  induction n with
  | zero =>
    intro l _ h
    cases l with
    | nil => simp
    | cons x r => have := h x (List.mem_cons_self ..); omega
  | succ n ih =>
    intro l hn h
    have h1 := ih (l.filter fun x => decide (x ≠ (n : Int))) (hn.sublist List.filter_sublist) fun x hx => by
      obtain ⟨h1, h2⟩ := List.mem_filter.1 hx
      have := h x h1
      have := of_decide_eq_true h2
      omega
    have h2 : l.length ≤ (l.filter fun x => decide (x ≠ (n : Int))).length + 1 := by
      clear ih h1 h
      induction l with
      | nil => simp
      | cons x r ihr =>
        rw [List.nodup_cons] at hn
        by_cases e : x = (n : Int)
        · subst e
          rw [List.filter_cons_of_neg (by simp)]
          have : r.filter (fun x => decide (x ≠ (n : Int))) = r := List.filter_eq_self.2 fun y hy => decide_eq_true fun e => hn.1 (e ▸ hy)
          rw [this]; simp
        · rw [List.filter_cons_of_pos (by simpa using e)]
          have := ihr hn.2
          simp only [List.length_cons]; omega
    omega
/-- The shortest odd closed walk is no longer than there are nodes. -/
theorem odd_short (hk : EndsOk ends) : ∀ (d : Nat) (v : Int), Walk ends d v v → d % 2 = 1 → ∃ d' v', d' ≤ d ∧ d' ≤ ends.length ∧ d' % 2 = 1 ∧ Walk ends d' v' v' := by
  intro d
  induction d using Nat.strongRecOn with
  | ind d ih =>
    intro v h hd
    by_cases hle : d ≤ ends.length
    · exact ⟨d, v, Nat.le_refl _, hle, hd, h⟩
    · obtain ⟨f, f0, fn, hf⟩ := walk_fun hk h
      have hex : ∃ i j, i < j ∧ j ≤ ends.length ∧ f i = f j := by
        refine Classical.byContradiction fun hno => ?_
        have hnd : ((List.range (ends.length + 1)).map f).Nodup := by
          rw [List.Nodup, List.pairwise_iff_getElem]
          intro i j hi hj hij e
          simp only [List.length_map, List.length_range] at hi hj
          simp only [List.getElem_map, List.getElem_range] at e
          exact hno ⟨i, j, hij, by omega, e⟩
        have := nodup_bound ends.length _ hnd fun x hx => by
          obtain ⟨i, hi, rfl⟩ := List.mem_map.1 hx
          have hi := List.mem_range.1 hi
          obtain ⟨r1, r2⟩ := (hf i 0 (Nat.zero_le _) (by omega)).rng hk
          omega
        simp at this
        omega
      obtain ⟨i, j, hij, hj, e⟩ := hex
      by_cases hp : (j - i) % 2 = 1
      · have := hf j i (by omega) (by omega)
        rw [← e] at this
        exact ⟨j - i, f i, by omega, by omega, hp, this⟩
      · have h1 := hf i 0 (Nat.zero_le _) (by omega)
        have h2 := hf d j (by omega) (Nat.le_refl _)
        rw [← e] at h2
        have h3 := h1.trans h2
        rw [f0, fn] at h3
        obtain ⟨d', v', k1, k2, k3, k4⟩ := ih (i - 0 + (d - j)) (by omega) v h3 (by omega)
        exact ⟨d', v', by omega, k2, k3, k4⟩
/-- Whether walks of k steps lead to g. -/
def stL (ends : Ends) (g : Nat) : Nat → List Bool
  | 0 => (List.range ends.length).map fun v : Nat => decide (v = g)
  | k + 1 => (List.range ends.length).map fun v : Nat => (near ends (v : Int)).any fun w => (stL ends g k).getD w.toNat false
theorem stL_len {g k : Nat} : (stL ends g k).length = ends.length := by cases k <;> simp [stL]
theorem stL_walk (hk : EndsOk ends) {g : Nat} (hg : g < ends.length) : ∀ {k v : Nat}, v < ends.length → ((stL ends g k).getD v false = true ↔ Walk ends k (v : Int) (g : Int)) := by
  intro k
  induction k with
  | zero =>
    intro v hv
    rw [getD_eq (by rw [stL_len]; exact hv)]
    simp only [stL, List.getElem_map, List.getElem_range, decide_eq_true_eq]
    constructor
    · rintro rfl; exact .nil (by omega) (by simpa using hv)
    · intro h
      generalize hx : (v : Int) = x at h
      generalize hy : (g : Int) = y at h
      cases h
      omega
  | succ k ih =>
    intro v hv
    rw [getD_eq (by rw [stL_len]; exact hv)]
    simp only [stL, List.getElem_map, List.getElem_range, List.any_eq_true]
    constructor
    · rintro ⟨w, hw, hs⟩
      obtain ⟨r1, r2⟩ := near_ok hk _ _ hw
      have := (ih r2).1 hs
      rw [Int.toNat_of_nonneg r1] at this
      exact Walk.cons (by omega) (by simpa using hv) hw this
    · intro h
      obtain ⟨z, hz, h2⟩ := h.uncons hk
      obtain ⟨r1, r2⟩ := near_ok hk _ _ hz
      refine ⟨z, hz, (ih r2).2 ?_⟩
      rw [Int.toNat_of_nonneg r1]; exact h2
/-- The least length of an odd closed walk at v, or -1. -/
def oD (ends : Ends) (v : Nat) : Int := dpt ends v v 1
theorem oD_walk (hk : EndsOk ends) {v : Nat} (hv : v < ends.length) (h : 0 ≤ oD ends v) : Walk ends (oD ends v).toNat (v : Int) (v : Int) ∧ (oD ends v).toNat % 2 = 1 := dpt_walk hk hv hv (by omega) h
theorem oD_least (hk : EndsOk ends) {v n : Nat} (hv : v < ends.length) (h : Walk ends n (v : Int) (v : Int)) (hp : n % 2 = 1) : 0 ≤ oD ends v ∧ oD ends v ≤ n := dpt_least hk hv h hp
/-- The first of the nodes below i with the shortest odd closed walk: what the program has. -/
def OMi (ends : Ends) (i : Nat) (st le : Int) : Prop := (st = -1 ∧ ∀ v, v < i → ¬ 0 < oD ends v) ∨ (∃ s : Nat, st = (s : Int) ∧ s < i ∧ oD ends s = le ∧ 0 < le ∧ (∀ v, v < i → 0 < oD ends v → le ≤ oD ends v) ∧ ∀ v, v < s → 0 < oD ends v → le < oD ends v)
theorem OMi.zero {le : Int} : OMi ends 0 (-1) le := .inl ⟨rfl, fun v hv => by omega⟩
theorem OMi.new {i : Nat} {st le : Int} (h : OMi ends i st le) (h0 : 0 < oD ends i) (h1 : st < 0 ∨ oD ends i < le) : OMi ends (i + 1) (i : Int) (oD ends i) := by
  refine .inr ⟨i, rfl, by omega, rfl, h0, fun v hv hp => ?_, fun v hv hp => ?_⟩
  · by_cases e : v = i
    · subst e; omega
    · rcases h with ⟨h2, h3⟩ | ⟨s, h2, h3, h4, h5, h6, h7⟩
      · exact absurd hp (h3 v (by omega))
      · have := h6 v (by omega) hp; omega
  · rcases h with ⟨h2, h3⟩ | ⟨s, h2, h3, h4, h5, h6, h7⟩
    · exact absurd hp (h3 v (by omega))
    · have := h6 v (by omega) hp; omega
theorem OMi.old {i : Nat} {st le : Int} (h : OMi ends i st le) (h1 : ¬ 0 < oD ends i ∨ (0 ≤ st ∧ le ≤ oD ends i)) : OMi ends (i + 1) st le := by
  rcases h with ⟨h2, h3⟩ | ⟨s, h2, h3, h4, h5, h6, h7⟩
  · refine .inl ⟨h2, fun v hv => ?_⟩
    by_cases e : v = i
    · subst e; omega
    · exact h3 v (by omega)
  · refine .inr ⟨s, h2, by omega, h4, h5, fun v hv hp => ?_, h7⟩
    by_cases e : v = i
    · subst e; omega
    · exact h6 v (by omega) hp
/-- The pairs of a node and an odd length that the reference has looked at, before length k at node i. -/
def vis (ends : Ends) (i k v d : Nat) : Prop := d % 2 = 1 ∧ d ≤ ends.length ∧ (v < i ∨ (v = i ∧ d < k))
def hit (ends : Ends) (v d : Nat) : Prop := (stL ends v d).getD v false = true
def OMs (ends : Ends) (i k : Nat) (best st : Int) : Prop := (best = 0 ∧ ∀ v d, vis ends i k v d → ¬ hit ends v d) ∨ (∃ s b : Nat, st = (s : Int) ∧ best = (b : Int) ∧ vis ends i k s b ∧ hit ends s b ∧ (∀ v d, vis ends i k v d → hit ends v d → b ≤ d) ∧ ∀ v d, vis ends i k v d → hit ends v d → v < s → b < d)
theorem OMs.zero : OMs ends 0 1 0 0 := .inl ⟨rfl, fun v d h => by unfold vis at h; omega⟩
theorem OMs.row {i k : Nat} {best st : Int} (h : OMs ends i k best st) (hk : ends.length < k) : OMs ends (i + 1) 1 best st := by
  have e : ∀ v d, vis ends (i + 1) 1 v d ↔ vis ends i k v d := fun v d => by unfold vis; omega
  unfold OMs at *
  simp only [e]
  exact h
theorem OMs.new {i k : Nat} {best st : Int} (h : OMs ends i k best st) (hk : k % 2 = 1) (hl : k ≤ ends.length) (hh : hit ends i k) (h1 : best = 0 ∨ (k : Int) < best) : OMs ends i (k + 2) (k : Int) (i : Int) := by
  have e : ∀ v d, vis ends i (k + 2) v d → vis ends i k v d ∨ (v = i ∧ d = k) := fun v d h => by unfold vis at *; omega
  refine .inr ⟨i, k, rfl, rfl, by unfold vis; omega, hh, fun v d hv hd => ?_, fun v d hv hd hlt => ?_⟩
  · rcases e v d hv with hv | ⟨rfl, rfl⟩
    · rcases h with ⟨_, h3⟩ | ⟨s, b, h2, h3, h4, h5, h6, h7⟩
      · exact absurd hd (h3 v d hv)
      · have h9 := h4.1; have := h6 v d hv hd; omega
    · exact Nat.le_refl _
  · rcases e v d hv with hv | ⟨rfl, rfl⟩
    · rcases h with ⟨_, h3⟩ | ⟨s, b, h2, h3, h4, h5, h6, h7⟩
      · exact absurd hd (h3 v d hv)
      · have h9 := h4.1; have := h6 v d hv hd; omega
    · omega
theorem OMs.old {i k : Nat} {best st : Int} (h : OMs ends i k best st) (hk : k % 2 = 1) (h1 : ¬ hit ends i k ∨ (best ≠ 0 ∧ best ≤ (k : Int))) : OMs ends i (k + 2) best st := by
  have e : ∀ v d, vis ends i (k + 2) v d → vis ends i k v d ∨ (v = i ∧ d = k) := fun v d h => by unfold vis at *; omega
  rcases h with ⟨h2, h3⟩ | ⟨s, b, h2, h3, h4, h5, h6, h7⟩
  · refine .inl ⟨h2, fun v d hv hd => ?_⟩
    rcases e v d hv with hv | ⟨rfl, rfl⟩
    · exact h3 v d hv hd
    · rcases h1 with h1 | h1
      · exact h1 hd
      · exact h1.1 h2
  · refine .inr ⟨s, b, h2, h3, by unfold vis at *; omega, h5, fun v d hv hd => ?_, fun v d hv hd hlt => ?_⟩
    · rcases e v d hv with hv | ⟨rfl, rfl⟩
      · exact h6 v d hv hd
      · rcases h1 with h1 | h1
        · exact absurd hd h1
        · omega
    · rcases e v d hv with hv | ⟨rfl, rfl⟩
      · exact h7 v d hv hd hlt
      · have : s < v ∨ s = v := by unfold vis at h4; omega
        omega
theorem hit_iff (hk : EndsOk ends) {v d : Nat} (hv : v < ends.length) : hit ends v d ↔ Walk ends d (v : Int) (v : Int) := stL_walk hk hv hv
/-- The program and the reference find the same node and the same length. -/
theorem om_same (hk : EndsOk ends) {st le best sp : Int} (h : OMi ends ends.length st le) (g : OMs ends ends.length 1 best sp) : (st < 0 ∧ best = 0) ∨ (0 ≤ st ∧ st = sp ∧ le = best ∧ 0 < best) := by
  have none_of : best = 0 → (∀ v d, vis ends ends.length 1 v d → ¬ hit ends v d) → ∀ v, v < ends.length → ¬ 0 < oD ends v := fun _ hno v hv hp => by
    obtain ⟨h1, h2⟩ := oD_walk hk hv (by omega)
    obtain ⟨d', v', k1, k2, k3, k4⟩ := odd_short hk _ _ h1 h2
    obtain ⟨r1, r2⟩ := k4.rng hk
    have e : v' = ((v'.toNat : Nat) : Int) := by omega
    rw [e] at k4
    exact hno v'.toNat d' ⟨k3, k2, .inl r2⟩ ((hit_iff hk r2).2 k4)
  rcases h with ⟨h2, h3⟩ | ⟨s, h2, h3, h4, h5, h6, h7⟩
  · rcases g with ⟨g2, g3⟩ | ⟨s', b, g2, g3, g4, g5, g6, g7⟩
    · exact .inl ⟨by omega, g2⟩
    · have hs : s' < ends.length := by unfold vis at g4; omega
      have := oD_least hk hs ((hit_iff hk hs).1 g5) g4.1
      have hb : 0 < oD ends s' := by
        obtain ⟨_, w2⟩ := oD_walk hk hs this.1
        omega
      exact absurd hb (h3 s' hs)
  · rcases g with ⟨g2, g3⟩ | ⟨s', b, g2, g3, g4, g5, g6, g7⟩
    · exact absurd (by rw [h4]; exact h5) (none_of g2 g3 s h3)
    · have hs : s' < ends.length := by unfold vis at g4; omega
      have hw' := (hit_iff hk hs).1 g5
      have l1 := oD_least hk hs hw' g4.1
      have p1 : 0 < oD ends s' := by obtain ⟨_, w2⟩ := oD_walk hk hs l1.1; omega
      have l2 := h6 s' hs p1
      obtain ⟨w1, w2⟩ := oD_walk hk h3 (by omega)
      rw [h4] at w1 w2
      have hvs : vis ends ends.length 1 s le.toNat := ⟨w2, by unfold vis at g4; omega, .inl h3⟩
      have hh := (hit_iff hk h3).2 w1
      have l3 := g6 s le.toNat hvs hh
      have eb : le = (b : Int) := by omega
      have es : s = s' := by
        rcases Nat.lt_trichotomy s s' with c | c | c
        · have := g7 s le.toNat hvs hh c; omega
        · exact c
        · have := h7 s' c p1; omega
      exact .inr ⟨by omega, by omega, by omega, by omega⟩
/-- w is near v, and walks of k steps lead from it to s. -/
def okW (ends : Ends) (s v k w : Nat) : Prop := (w : Int) ∈ near ends (v : Int) ∧ (stL ends s k).getD w false = true
instance (s v k w : Nat) : Decidable (okW ends s v k w) := by unfold okW; infer_instance
def nxt (ends : Ends) (s v k : Nat) : Nat := ((List.range ends.length).find? fun w => decide (okW ends s v k w)).getD 0
/-- The node after m steps, of b. -/
def cur (ends : Ends) (s b : Nat) : Nat → Nat
  | 0 => s
  | m + 1 => nxt ends s (cur ends s b m) (b - (m + 1))
def pathO (ends : Ends) (s b m : Nat) : List Int := (List.range (m + 1)).map fun i => (cur ends s b i : Int)
theorem pathO_zero {s b : Nat} : pathO ends s b 0 = [(s : Int)] := rfl
theorem pathO_len {s b m : Nat} : (pathO ends s b m).length = m + 1 := by simp [pathO]
theorem pathO_succ {s b m : Nat} : pathO ends s b m ++ [(cur ends s b (m + 1) : Int)] = pathO ends s b (m + 1) := by unfold pathO; rw [List.range_succ (n := m + 1), List.map_append]; rfl
theorem pathO_last {s b m : Nat} (h : m < (pathO ends s b m).length) : (pathO ends s b m)[m] = (cur ends s b m : Int) := by simp [pathO]
theorem nxt_eq {s v k w : Nat} (hw : w < ends.length) (h : okW ends s v k w) (hm : ∀ w', w' < w → ¬ okW ends s v k w') : nxt ends s v k = w := by
  have e : ((List.range ends.length).find? fun w => decide (okW ends s v k w)) = some w := by
    rw [List.find?_range_eq_some]
    exact ⟨decide_eq_true h, List.mem_range.2 hw, fun j hj => by simpa using hm j hj⟩
  unfold nxt
  rw [e]; rfl
theorem nxt_ok {s v k : Nat} (h : ∃ w, w < ends.length ∧ okW ends s v k w) : nxt ends s v k < ends.length ∧ okW ends s v k (nxt ends s v k) ∧ ∀ w', w' < nxt ends s v k → ¬ okW ends s v k w' := by
  obtain ⟨w, h1, h2⟩ := h
  have : ∀ n, ∀ w, w ≤ n → w < ends.length → okW ends s v k w → ∃ w0, w0 < ends.length ∧ okW ends s v k w0 ∧ ∀ w', w' < w0 → ¬ okW ends s v k w' := by
    intro n
    induction n with
    | zero => intro w h0 h1 h2; exact ⟨w, h1, h2, fun w' hw' => by omega⟩
    | succ n ih =>
      intro w h0 h1 h2
      by_cases hex : ∃ w', w' < w ∧ okW ends s v k w'
      · obtain ⟨w', h3, h4⟩ := hex
        exact ih w' (by omega) (by omega) h4
      · exact ⟨w, h1, h2, fun w' hw' hk => hex ⟨w', hw', hk⟩⟩
  obtain ⟨w0, k1, k2, k3⟩ := this w w (Nat.le_refl _) h1 h2
  have e := nxt_eq k1 k2 k3
  rw [e]; exact ⟨k1, k2, k3⟩
/-- A near node is on a shortest walk just when walks of one step fewer lead on. -/
theorem dpt_step (hk : EndsOk ends) (hs : SymE ends) {s v w k : Nat} (hS : s < ends.length) (hv : v < ends.length) (hd : dpt ends s v ((k + 1) % 2) = ((k + 1 : Nat) : Int)) (hw : (w : Int) ∈ near ends (v : Int)) : dpt ends s w (k % 2) = (k : Int) ↔ (stL ends s k).getD w false = true := by
  obtain ⟨r1, r2⟩ := near_ok hk _ _ hw
  have hwl : w < ends.length := by simpa using r2
  rw [stL_walk hk hS hwl]
  constructor
  · intro h
    have := (dpt_walk (p := k % 2) hk hS hwl (by omega) (by rw [h]; omega)).1
    rw [h] at this
    have := this.symm hk hs
    simpa using this
  · intro h
    have l1 := dpt_least hk hS (h.symm hk hs) (p := k % 2) rfl
    obtain ⟨w1, w2⟩ := dpt_walk hk hS hwl (by omega) l1.1
    have hv2 : (v : Int) ∈ near ends (w : Int) := hs _ _ (by omega) (by simpa using hv) hw
    have := dpt_least hk hS (w1.snoc hv2) (p := (k + 1) % 2) (by omega)
    rw [hd] at this
    omega
theorem cur_inv (hk : EndsOk ends) (hs : SymE ends) {s b : Nat} (hS : s < ends.length) (hb : oD ends s = (b : Int)) (hb1 : b % 2 = 1) : ∀ m, m ≤ b → cur ends s b m < ends.length ∧ dpt ends s (cur ends s b m) ((b - m) % 2) = ((b - m : Nat) : Int) := by
  intro m
  induction m with
  | zero => intro _; refine ⟨hS, ?_⟩; show dpt ends s s ((b - 0) % 2) = _; rw [Nat.sub_zero, hb1]; exact hb
  | succ m ih =>
    intro hm
    obtain ⟨h1, h2⟩ := ih (by omega)
    have e : b - m = b - (m + 1) + 1 := by omega
    rw [e] at h2
    have hw := (dpt_walk (p := (b - (m + 1) + 1) % 2) hk hS h1 (by omega) (by rw [h2]; omega)).1
    rw [h2, Int.toNat_natCast] at hw
    obtain ⟨z, hz, hw2⟩ := (hw.symm hk hs).uncons hk
    obtain ⟨r1, r2⟩ := near_ok hk _ _ hz
    have ez : z = ((z.toNat : Nat) : Int) := by omega
    rw [ez] at hz hw2
    have hex := nxt_ok (s := s) (v := cur ends s b m) (k := b - (m + 1)) ⟨z.toNat, r2, hz, (stL_walk hk hS r2).2 hw2⟩
    exact ⟨hex.1, (dpt_step hk hs hS h1 h2 hex.2.1.1).2 hex.2.1.2⟩
theorem cur_ok (hk : EndsOk ends) (hs : SymE ends) {s b m : Nat} (hS : s < ends.length) (hb : oD ends s = (b : Int)) (hb1 : b % 2 = 1) (hm : m < b) : okW ends s (cur ends s b m) (b - (m + 1)) (cur ends s b (m + 1)) ∧ ∀ w', w' < cur ends s b (m + 1) → ¬ okW ends s (cur ends s b m) (b - (m + 1)) w' := by
  obtain ⟨h1, h2⟩ := cur_inv hk hs hS hb hb1 m (by omega)
  have e : b - m = b - (m + 1) + 1 := by omega
  rw [e] at h2
  have hw := (dpt_walk (p := (b - (m + 1) + 1) % 2) hk hS h1 (by omega) (by rw [h2]; omega)).1
  rw [h2, Int.toNat_natCast] at hw
  obtain ⟨z, hz, hw2⟩ := (hw.symm hk hs).uncons hk
  obtain ⟨r1, r2⟩ := near_ok hk _ _ hz
  have ez : z = ((z.toNat : Nat) : Int) := by omega
  rw [ez] at hz hw2
  exact (nxt_ok (s := s) (v := cur ends s b m) (k := b - (m + 1)) ⟨z.toNat, r2, hz, (stL_walk hk hS r2).2 hw2⟩).2
/-- The least near node of the first j that is on a shortest walk: what the program has, -1 where none. -/
def BMi (ends : Ends) (s v k j : Nat) (b : Int) : Prop := (b = -1 ∧ ∀ i, i < j → ∀ x : Int, (near ends (v : Int))[i]? = some x → dpt ends s x.toNat (k % 2) ≠ (k : Int)) ∨ (0 ≤ b ∧ b ∈ near ends (v : Int) ∧ dpt ends s b.toNat (k % 2) = (k : Int) ∧ ∀ i, i < j → ∀ x : Int, (near ends (v : Int))[i]? = some x → dpt ends s x.toNat (k % 2) = (k : Int) → b ≤ x)
theorem BMi.zero {s v k : Nat} : BMi ends s v k 0 (-1) := .inl ⟨rfl, fun i hi => by omega⟩
theorem BMi.new {s v k j : Nat} {b x : Int} (h : BMi ends s v k j b) (hx : (near ends (v : Int))[j]? = some x) (h0 : 0 ≤ x) (hd : dpt ends s x.toNat (k % 2) = (k : Int)) (h1 : b < 0 ∨ x < b) : BMi ends s v k (j + 1) x := by
  refine .inr ⟨h0, List.mem_of_getElem? hx, hd, fun i hi y hy hq => ?_⟩
  by_cases e : i = j
  · subst e; rw [hx] at hy; cases hy; exact Int.le_refl _
  · rcases h with ⟨_, h3⟩ | ⟨h2, _, _, h3⟩
    · exact absurd hq (h3 i (by omega) y hy)
    · have := h3 i (by omega) y hy hq; omega
theorem BMi.old {s v k j : Nat} {b x : Int} (h : BMi ends s v k j b) (hx : (near ends (v : Int))[j]? = some x) (h1 : dpt ends s x.toNat (k % 2) ≠ (k : Int) ∨ (0 ≤ b ∧ b ≤ x)) : BMi ends s v k (j + 1) b := by
  rcases h with ⟨h2, h3⟩ | ⟨h2, h4, h5, h3⟩
  · refine .inl ⟨h2, fun i hi y hy => ?_⟩
    by_cases e : i = j
    · subst e; rw [hx] at hy; cases hy
      rcases h1 with h1 | h1
      · exact h1
      · omega
    · exact h3 i (by omega) y hy
  · refine .inr ⟨h2, h4, h5, fun i hi y hy hq => ?_⟩
    by_cases e : i = j
    · subst e; rw [hx] at hy; cases hy
      rcases h1 with h1 | h1
      · exact absurd hq h1
      · exact h1.2
    · exact h3 i (by omega) y hy hq
theorem BMi.done (hk : EndsOk ends) (hs : SymE ends) {s b m : Nat} {x : Int} (hS : s < ends.length) (hb : oD ends s = (b : Int)) (hb1 : b % 2 = 1) (hm : m < b) {j : Nat} (hj : (near ends (cur ends s b m : Int)).length ≤ j) (h : BMi ends s (cur ends s b m) (b - (m + 1)) j x) : x = (cur ends s b (m + 1) : Int) := by
  obtain ⟨h1, h2⟩ := cur_inv hk hs hS hb hb1 m (by omega)
  have e : b - m = b - (m + 1) + 1 := by omega
  rw [e] at h2
  obtain ⟨⟨o1, o2⟩, o3⟩ := cur_ok hk hs hS hb hb1 hm
  have o4 := (dpt_step hk hs hS h1 h2 o1).2 o2
  obtain ⟨i, hi, ei⟩ := List.mem_iff_getElem.1 o1
  have hg : (near ends (cur ends s b m : Int))[i]? = some (cur ends s b (m + 1) : Int) := by rw [List.getElem?_eq_getElem hi, ei]
  rcases h with ⟨_, h3⟩ | ⟨p1, p2, p3, p4⟩
  · exact absurd (by simpa using o4) (h3 i (by omega) _ hg)
  · have l1 := p4 i (by omega) _ hg (by simpa using o4)
    have ex : x = ((x.toNat : Nat) : Int) := by omega
    rw [ex] at p2
    have := (dpt_step hk hs hS h1 h2 p2).1 p3
    have l2 : ¬ x.toNat < cur ends s b (m + 1) := fun hlt => o3 _ hlt ⟨p2, this⟩
    omega
end

end Go.Proofs.Ytnngpblegbjfdaa
