/- Breadth-first search over ports, with no program in sight: what it computes, its bounds, and that it finds the lengths of shortest walks. No condition. -/
import Derived.Test.YtdpdjbfjjlpfgaaGreatDoorAuto
namespace Go.Proofs.YtdpdjbfjjlpfgaaGreatDoor

abbrev Ends := List (List (Int × Int))
/-- One node is looked at: it gets the distance d + 1 and joins the list, if it has none. -/
def bfsX (d : Int) (s : List Int × List Int) (x : Int) : List Int × List Int := if s.1.getD x.toNat 0 < 0 then (s.1.set x.toNat (d + 1), s.2 ++ [x]) else s
def near (ends : Ends) (w : Int) : List Int := (ends.getD w.toNat []).map Prod.fst
def bfsS (ends : Ends) (s : List Int × List Int) (i : Nat) : List Int × List Int := match s.2[i]? with
  | some w => (near ends w).foldl (bfsX (s.1.getD w.toNat 0)) s
  | none => s
/-- The distances and the list after k nodes of the list. -/
def bfsN (ends : Ends) (v : Int) : Nat → List Int × List Int
  | 0 => ((List.replicate ends.length (-1)).set v.toNat 0, [v])
  | k + 1 => bfsS ends (bfsN ends v k) k
def bfs (ends : Ends) (v : Int) : List Int := (bfsN ends v ends.length).1

def EndsOk (ends : Ends) : Prop := ∀ r ∈ ends, ∀ e ∈ r, 0 ≤ e.1 ∧ e.1.toNat < ends.length
def negs (o : List Int) : Nat := o.countP (fun x => decide (x < 0))
theorem getD_eq {α : Type} {l : List α} {i : Nat} {z : α} (h : i < l.length) : l.getD i z = l[i] := by simp [List.getD, h]
theorem getD_set_self {α : Type} {l : List α} {i : Nat} {z x : α} (h : i < l.length) : (l.set i x).getD i z = x := by simp [List.getD, h]
theorem getD_set_ne {α : Type} {l : List α} {i j : Nat} {z x : α} (h : i ≠ j) : (l.set i x).getD j z = l.getD j z := by simp [List.getD, List.getElem?_set_ne h]
theorem near_get {ends : Ends} {w : Int} (h : w.toNat < ends.length) : near ends w = (ends[w.toNat]).map Prod.fst := by simp [near, List.getD, h]

structure BInv (N : Nat) (v : Int) (s : List Int × List Int) : Prop where
  len : s.1.length = N
  cnt : s.2.length + negs s.1 = N
  mem : ∀ x ∈ s.2, 0 ≤ x ∧ x.toNat < N ∧ 0 ≤ s.1.getD x.toNat 0
  all : ∀ i, i < N → 0 ≤ s.1.getD i 0 → (i : Int) ∈ s.2
  rng : ∀ d ∈ s.1, -1 ≤ d ∧ d < s.2.length
  src : 0 ≤ v ∧ v.toNat < N ∧ s.1.getD v.toNat 0 = 0
theorem BInv.walk {N : Nat} {v : Int} {s : List Int × List Int} (h : BInv N v s) : s.2.length ≤ N := by have := h.cnt; omega
theorem BInv.rngD {N : Nat} {v : Int} {s : List Int × List Int} (h : BInv N v s) (i : Nat) (hi : i < N) : -1 ≤ s.1.getD i 0 ∧ s.1.getD i 0 < s.2.length := by
  rw [getD_eq (by rw [h.len]; exact hi)]; exact h.rng _ (List.getElem_mem _)
theorem BInv.rngI {N : Nat} {v : Int} {s : List Int × List Int} (h : BInv N v s) {i : Nat} (hi : i < s.1.length) : -1 ≤ s.1[i] ∧ s.1[i] < s.2.length := h.rng _ (List.getElem_mem _)
theorem BInv.step {N : Nat} {v d x : Int} {s : List Int × List Int} (h : BInv N v s) (h0 : 0 ≤ x) (h1 : x.toNat < N) (hd : 0 ≤ d) (hd2 : d < s.2.length) : BInv N v (bfsX d s x) := by
  unfold bfsX
  split
  · rename_i hn
    have hl : x.toNat < s.1.length := by rw [h.len]; exact h1
    have hx : s.1[x.toNat] < 0 := by rwa [getD_eq hl] at hn
    have hpos : 0 < negs s.1 := List.countP_pos_iff.2 ⟨_, List.getElem_mem hl, by simpa using hx⟩
    have hc := h.cnt
    refine ⟨by simp [h.len], ?_, fun y hy => ?_, fun i hi hg => ?_, fun e he => ?_, h.src.1, h.src.2.1, ?_⟩
    · have : negs (s.1.set x.toNat (d + 1)) = negs s.1 - 1 := by
        unfold negs
        rw [List.countP_set hl]
        have : ¬ (d + 1 < 0) := by omega
        simp [hx, this]
      simp only [this, List.length_append, List.length_cons, List.length_nil]
      omega
    · rcases List.mem_append.1 hy with hy | hy
      · obtain ⟨q1, q2, q3⟩ := h.mem y hy
        refine ⟨q1, q2, ?_⟩
        by_cases e : x.toNat = y.toNat
        · simp only [← e, getD_set_self hl]; omega
        · simp only [getD_set_ne e]; exact q3
      · rw [List.mem_singleton] at hy
        subst hy
        simp only [getD_set_self hl]
        exact ⟨h0, h1, by omega⟩
    · by_cases e : x.toNat = i
      · subst e
        simp only [List.mem_append, List.mem_singleton]
        right; omega
      · simp only [getD_set_ne e] at hg
        exact List.mem_append_left _ (h.all i hi hg)
    · simp only [List.length_append, List.length_cons, List.length_nil]
      rcases List.mem_or_eq_of_mem_set he with he | he
      · have := h.rng e he; omega
      · omega
    · by_cases e : x.toNat = v.toNat
      · have := h.src.2.2; rw [← e] at this; omega
      · simp only [getD_set_ne e]; exact h.src.2.2
  · exact h
theorem bfsX_keep {d x : Int} {s : List Int × List Int} {y : Nat} (hy : 0 ≤ s.1.getD y 0) : (bfsX d s x).1.getD y 0 = s.1.getD y 0 := by
  unfold bfsX
  split
  · rename_i hn
    by_cases e : x.toNat = y
    · subst e; omega
    · exact getD_set_ne e
  · rfl
theorem bfsX_len {d x : Int} {s : List Int × List Int} : s.2.length ≤ (bfsX d s x).2.length := by unfold bfsX; split <;> simp
theorem bfsX_pre {d x : Int} {s : List Int × List Int} : ∃ r, (bfsX d s x).2 = s.2 ++ r := by
  unfold bfsX; split
  · exact ⟨_, rfl⟩
  · exact ⟨[], by simp⟩
theorem fold_keep {d : Int} (xs : List Int) : ∀ {s : List Int × List Int} {y : Nat}, 0 ≤ s.1.getD y 0 → (xs.foldl (bfsX d) s).1.getD y 0 = s.1.getD y 0 := by
  induction xs with
  | nil => intro s y _; rfl
  | cons x r ih => intro s y hy; rw [List.foldl_cons, ih (by rw [bfsX_keep hy]; exact hy), bfsX_keep hy]
theorem fold_pre {d : Int} (xs : List Int) : ∀ {s : List Int × List Int}, ∃ r, (xs.foldl (bfsX d) s).2 = s.2 ++ r := by
  induction xs with
  | nil => intro s; exact ⟨[], by simp⟩
  | cons x r ih =>
    intro s
    obtain ⟨r1, e1⟩ := bfsX_pre (d := d) (x := x) (s := s)
    obtain ⟨r2, e2⟩ := ih (s := bfsX d s x)
    exact ⟨r1 ++ r2, by rw [List.foldl_cons, e2, e1, List.append_assoc]⟩
theorem BInv.fold {N : Nat} {v d : Int} (xs : List Int) : ∀ {s : List Int × List Int}, BInv N v s → (∀ x ∈ xs, 0 ≤ x ∧ x.toNat < N) → 0 ≤ d → d < s.2.length → BInv N v (xs.foldl (bfsX d) s) := by
  induction xs with
  | nil => intro s h _ _ _; exact h
  | cons x r ih =>
    intro s h hx hd hd2
    have h1 := hx x (List.mem_cons_self ..)
    exact ih (h.step h1.1 h1.2 hd hd2) (fun y hy => hx y (List.mem_cons_of_mem _ hy)) hd (by have := bfsX_len (d := d) (x := x) (s := s); omega)
theorem near_ok {ends : Ends} (h : EndsOk ends) (w : Int) : ∀ x ∈ near ends w, 0 ≤ x ∧ x.toNat < ends.length := by
  intro x hx
  unfold near at hx
  obtain ⟨e, he, rfl⟩ := List.mem_map.1 hx
  by_cases hw : w.toNat < ends.length
  · rw [getD_eq hw] at he; exact h _ (List.getElem_mem hw) e he
  · simp [List.getD, List.getElem?_eq_none (Nat.le_of_not_lt hw)] at he
theorem bfsN_succ {ends : Ends} {v : Int} {k : Nat} (h : k < (bfsN ends v k).2.length) : bfsN ends v (k + 1) = (near ends (bfsN ends v k).2[k]).foldl (bfsX ((bfsN ends v k).1.getD ((bfsN ends v k).2[k]).toNat 0)) (bfsN ends v k) := by
  rw [bfsN, bfsS, List.getElem?_eq_getElem h]
theorem bfsN_stop {ends : Ends} {v : Int} {k : Nat} (h : (bfsN ends v k).2.length ≤ k) : bfsN ends v (k + 1) = bfsN ends v k := by
  rw [bfsN, bfsS, List.getElem?_eq_none h]
theorem BInv.init {ends : Ends} {v : Int} (h0 : 0 ≤ v) (h1 : v.toNat < ends.length) : BInv ends.length v (bfsN ends v 0) := by
  have hl : v.toNat < (List.replicate ends.length (-1 : Int)).length := by simpa using h1
  refine ⟨by simp [bfsN], ?_, fun x hx => ?_, fun i hi hg => ?_, fun d hd => ?_, h0, h1, ?_⟩
  · simp only [bfsN, negs, List.length_cons, List.length_nil]
    rw [List.countP_set hl]
    simp [List.countP_replicate]
    omega
  · simp only [bfsN, List.mem_singleton] at hx ⊢
    subst hx
    rw [getD_set_self hl]
    exact ⟨h0, h1, by omega⟩
  · simp only [bfsN, List.mem_singleton] at hg ⊢
    by_cases e : v.toNat = i
    · omega
    · rw [getD_set_ne e, getD_eq (by simpa using hi)] at hg
      simp at hg
  · simp only [bfsN, List.length_cons, List.length_nil] at hd ⊢
    rcases List.mem_or_eq_of_mem_set hd with hd | hd
    · have := (List.mem_replicate.1 hd).2; omega
    · omega
  · simp only [bfsN]; exact getD_set_self hl
theorem bfsN_inv {ends : Ends} {v : Int} (hk : EndsOk ends) (h0 : 0 ≤ v) (h1 : v.toNat < ends.length) (k : Nat) : BInv ends.length v (bfsN ends v k) := by
  induction k with
  | zero => exact BInv.init h0 h1
  | succ k ih =>
    by_cases h : k < (bfsN ends v k).2.length
    · rw [bfsN_succ h]
      have hm := ih.mem _ (List.getElem_mem h)
      exact ih.fold _ (near_ok hk _) hm.2.2 (ih.rngD _ hm.2.1).2
    · rw [bfsN_stop (by omega)]; exact ih
theorem bfsN_fix {ends : Ends} {v : Int} {k : Nat} (h : (bfsN ends v k).2.length ≤ k) (j : Nat) : bfsN ends v (k + j) = bfsN ends v k := by
  induction j with
  | zero => rfl
  | succ j ih => rw [← Nat.add_assoc, bfsN_stop (by rw [ih]; omega), ih]
theorem bfs_done {ends : Ends} {v : Int} {k : Nat} (hk : EndsOk ends) (h0 : 0 ≤ v) (h1 : v.toNat < ends.length) (h : (bfsN ends v k).2.length ≤ k) (h2 : k ≤ ends.length) : (bfsN ends v k).1 = bfs ends v := by
  have := bfsN_fix h (ends.length - k)
  rw [Nat.add_sub_cancel' h2] at this
  rw [bfs, this]
theorem bfs_len {ends : Ends} {v : Int} (hk : EndsOk ends) (h0 : 0 ≤ v) (h1 : v.toNat < ends.length) : (bfs ends v).length = ends.length := (bfsN_inv hk h0 h1 _).len
theorem bfs_rng {ends : Ends} {v : Int} (hk : EndsOk ends) (h0 : 0 ≤ v) (h1 : v.toNat < ends.length) : ∀ d ∈ bfs ends v, -1 ≤ d ∧ d < ends.length := fun d hd => by
  have h := bfsN_inv hk h0 h1 ends.length
  have := h.rng d hd
  have := h.walk
  omega
theorem bfs_src {ends : Ends} {v : Int} (hk : EndsOk ends) (h0 : 0 ≤ v) (h1 : v.toNat < ends.length) : (bfs ends v).getD v.toNat 0 = 0 := (bfsN_inv hk h0 h1 _).src.2.2

/-- The state while the neighbours of x are looked at. -/
def bfsK (ends : Ends) (v : Int) (i : Nat) (x : Int) (k : Nat) : List Int × List Int := ((near ends x).take k).foldl (bfsX ((bfsN ends v i).1.getD x.toNat 0)) (bfsN ends v i)
theorem bfsK_zero {ends : Ends} {v x : Int} {i : Nat} : bfsK ends v i x 0 = bfsN ends v i := by simp [bfsK]
theorem bfsK_succ {ends : Ends} {v x : Int} {i k : Nat} (h : k < (near ends x).length) : bfsK ends v i x (k + 1) = bfsX ((bfsN ends v i).1.getD x.toNat 0) (bfsK ends v i x k) (near ends x)[k] := by
  unfold bfsK; rw [List.take_succ_eq_append_getElem h, List.foldl_append]; rfl
theorem bfsK_full {ends : Ends} {v x : Int} {i k : Nat} (hk : (near ends x).length ≤ k) (h : i < (bfsN ends v i).2.length) (hx : (bfsN ends v i).2[i] = x) : bfsK ends v i x k = bfsN ends v (i + 1) := by
  rw [bfsN_succ h, hx, bfsK, List.take_of_length_le hk]
theorem bfsK_inv {ends : Ends} {v x : Int} {i k : Nat} (hk : EndsOk ends) (h0 : 0 ≤ v) (h1 : v.toNat < ends.length) (h : i < (bfsN ends v i).2.length) (hx : (bfsN ends v i).2[i] = x) : BInv ends.length v (bfsK ends v i x k) := by
  have hB := bfsN_inv hk h0 h1 i
  have hm := hB.mem _ (List.getElem_mem h)
  rw [hx] at hm
  exact hB.fold _ (fun y hy => near_ok hk _ y (List.mem_of_mem_take hy)) hm.2.2 (hB.rngD _ hm.2.1).2
theorem bfsK_d {ends : Ends} {v x : Int} {i k : Nat} (hk : EndsOk ends) (h0 : 0 ≤ v) (h1 : v.toNat < ends.length) (h : i < (bfsN ends v i).2.length) (hx : (bfsN ends v i).2[i] = x) : (bfsK ends v i x k).1.getD x.toNat 0 = (bfsN ends v i).1.getD x.toNat 0 := by
  have hm := (bfsN_inv hk h0 h1 i).mem _ (List.getElem_mem h)
  rw [hx] at hm
  exact fold_keep _ hm.2.2
theorem bfsK_pre {ends : Ends} {v x : Int} {i k : Nat} : ∃ r, (bfsK ends v i x k).2 = (bfsN ends v i).2 ++ r := fold_pre _
/-- A node without a distance joins. -/
theorem bfsK_new {ends : Ends} {v x y : Int} {i k : Nat} (hk : EndsOk ends) (h0 : 0 ≤ v) (h1 : v.toNat < ends.length) (h : i < (bfsN ends v i).2.length) (hx : (bfsN ends v i).2[i] = x) (hl : k < (near ends x).length) (hy : (near ends x)[k] = y)
    {h2 : y.toNat < (bfsK ends v i x k).1.length} {h3 : x.toNat < (bfsK ends v i x k).1.length} (hn : (bfsK ends v i x k).1[y.toNat] < 0) :
    bfsK ends v i x (k + 1) = ((bfsK ends v i x k).1.set y.toNat ((bfsK ends v i x k).1[x.toNat] + 1), (bfsK ends v i x k).2 ++ [y]) := by
  rw [bfsK_succ hl, hy, ← bfsK_d (k := k) hk h0 h1 h hx, bfsX, if_pos (by rw [getD_eq h2]; exact hn), getD_eq h3]
theorem bfsK_old {ends : Ends} {v x y : Int} {i k : Nat} (hl : k < (near ends x).length) (hy : (near ends x)[k] = y) {h2 : y.toNat < (bfsK ends v i x k).1.length} (hn : ¬ (bfsK ends v i x k).1[y.toNat] < 0) :
    bfsK ends v i x (k + 1) = bfsK ends v i x k := by
  rw [bfsK_succ hl, hy, bfsX, if_neg (by rw [getD_eq h2]; exact hn)]

/-! ### Walks -/
inductive Walk (ends : Ends) : Nat → Int → Int → Prop
  | nil {x : Int} (h0 : 0 ≤ x) (h1 : x.toNat < ends.length) : Walk ends 0 x x
  | snoc {n : Nat} {x y z : Int} (h : Walk ends n x y) (hz : z ∈ near ends y) : Walk ends (n + 1) x z
theorem Walk.rng {ends : Ends} (hk : EndsOk ends) {n : Nat} {x y : Int} (h : Walk ends n x y) : 0 ≤ y ∧ y.toNat < ends.length := by
  cases h with
  | nil h0 h1 => exact ⟨h0, h1⟩
  | snoc h hz => exact near_ok hk _ _ hz
theorem Walk.start {ends : Ends} {n : Nat} {x y : Int} (h : Walk ends n x y) : 0 ≤ x ∧ x.toNat < ends.length := by
  induction h with
  | nil h0 h1 => exact ⟨h0, h1⟩
  | snoc _ _ ih => exact ih
theorem Walk.trans {ends : Ends} {n m : Nat} {x y z : Int} (h : Walk ends n x y) (k : Walk ends m y z) : Walk ends (n + m) x z := by
  induction k with
  | nil => exact h
  | snoc _ hz ih => exact .snoc (ih h) hz
/-- Ports lead back. -/
def SymE (ends : Ends) : Prop := ∀ x y, 0 ≤ x → x.toNat < ends.length → y ∈ near ends x → x ∈ near ends y
theorem Walk.symm {ends : Ends} (hk : EndsOk ends) (hs : SymE ends) {n : Nat} {x y : Int} (h : Walk ends n x y) : Walk ends n y x := by
  induction h with
  | nil h0 h1 => exact .nil h0 h1
  | snoc h hz ih =>
    rename_i n x y z
    have hy := h.rng hk
    have hzr := near_ok hk _ _ hz
    have h1 : Walk ends 1 z y := .snoc (.nil hzr.1 hzr.2) (hs _ _ hy.1 hy.2 hz)
    have := h1.trans ih
    rwa [Nat.add_comm] at this

/-- What the search keeps, about walks. k: how many nodes of the list are done, and of the next one the neighbours xs. -/
structure WInv (ends : Ends) (v : Int) (k : Nat) (d : Int) (s : List Int × List Int) : Prop where
  sound : ∀ i, i < ends.length → 0 ≤ s.1.getD i 0 → Walk ends (s.1.getD i 0).toNat v (i : Int)
  mono : s.2.Pairwise (fun x y => s.1.getD x.toNat 0 ≤ s.1.getD y.toNat 0)
  top : ∀ x ∈ s.2, s.1.getD x.toNat 0 ≤ d + 1
  closed : ∀ j (_h : j < k) (h2 : j < s.2.length), ∀ z ∈ near ends s.2[j], 0 ≤ s.1.getD z.toNat 0 ∧ s.1.getD z.toNat 0 ≤ s.1.getD (s.2[j]).toNat 0 + 1
theorem WInv.step {ends : Ends} {v d x w : Int} {k : Nat} {s : List Int × List Int} (b : BInv ends.length v s) (h : WInv ends v k d s) (hk : k ≤ s.2.length) (h0 : 0 ≤ x) (h1 : x.toNat < ends.length) (hd : 0 ≤ d) (hw : 0 ≤ w ∧ w.toNat < ends.length) (hwd : s.1.getD w.toNat 0 = d) (hx : x ∈ near ends w) :
    WInv ends v k d (bfsX d s x) ∧ 0 ≤ (bfsX d s x).1.getD x.toNat 0 ∧ (bfsX d s x).1.getD x.toNat 0 ≤ d + 1 := by
  unfold bfsX
  split
  · rename_i hn
    have hl : x.toNat < s.1.length := by rw [b.len]; exact h1
    have hnx : ∀ y ∈ s.2, x.toNat ≠ y.toNat := fun y hy e => by have := (b.mem y hy).2.2; rw [← e] at this; omega
    refine ⟨⟨fun i hi hg => ?_, ?_, fun y hy => ?_, fun j hj h2 z hz => ?_⟩, ?_, ?_⟩
    · by_cases e : x.toNat = i
      · subst e
        simp only [getD_set_self hl]
        have hwk := h.sound w.toNat hw.2 (by rw [hwd]; exact hd)
        rw [hwd, show ((w.toNat : Nat) : Int) = w by omega] at hwk
        have := Walk.snoc hwk hx
        rw [show ((x.toNat : Nat) : Int) = x by omega, show (d + 1).toNat = d.toNat + 1 by omega]
        exact this
      · simp only [getD_set_ne e] at hg ⊢; exact h.sound i hi hg
    · rw [List.pairwise_append]
      refine ⟨?_, List.pairwise_singleton _ _, fun y hy z hz => ?_⟩
      · refine h.mono.imp_of_mem fun {p q} hp hq hpq => ?_
        rw [getD_set_ne (hnx p hp), getD_set_ne (hnx q hq)]; exact hpq
      · rw [List.mem_singleton] at hz
        subst hz
        rw [getD_set_self hl, getD_set_ne (hnx y hy)]
        exact h.top y hy
    · rcases List.mem_append.1 hy with hy | hy
      · simp only [getD_set_ne (hnx y hy)]; exact h.top y hy
      · rw [List.mem_singleton] at hy
        subst hy
        simp only [getD_set_self hl]; omega
    · have hj2 : j < s.2.length := by omega
      simp only [List.getElem_append_left hj2] at hz ⊢
      obtain ⟨q1, q2⟩ := h.closed j hj hj2 z hz
      have hz0 : x.toNat ≠ z.toNat := fun e => by rw [← e] at q1; omega
      simp only [getD_set_ne hz0, getD_set_ne (hnx _ (List.getElem_mem hj2))]
      exact ⟨q1, q2⟩
    · simp only [getD_set_self hl]; omega
    · simp only [getD_set_self hl]; omega
  · rename_i hn
    refine ⟨h, by omega, ?_⟩
    have := b.all x.toNat h1 (by omega)
    rw [show ((x.toNat : Nat) : Int) = x by omega] at this
    exact h.top x this
theorem WInv.fold {ends : Ends} {v d w : Int} {k : Nat} (hd : 0 ≤ d) (hw : 0 ≤ w ∧ w.toNat < ends.length) (xs : List Int) : ∀ {s : List Int × List Int}, BInv ends.length v s → WInv ends v k d s → k ≤ s.2.length → d < s.2.length → s.1.getD w.toNat 0 = d → (∀ x ∈ xs, (0 ≤ x ∧ x.toNat < ends.length) ∧ x ∈ near ends w) →
    WInv ends v k d (xs.foldl (bfsX d) s) ∧ ∀ x ∈ xs, 0 ≤ (xs.foldl (bfsX d) s).1.getD x.toNat 0 ∧ (xs.foldl (bfsX d) s).1.getD x.toNat 0 ≤ d + 1 := by
  induction xs with
  | nil => intro s _ h _ _ _ _; exact ⟨h, fun x hx => by simp at hx⟩
  | cons x r ih =>
    intro s b h hk hdl hwd hx
    have h1 := hx x (List.mem_cons_self ..)
    obtain ⟨q1, q2, q3⟩ := h.step b hk h1.1.1 h1.1.2 hd hw hwd h1.2
    have hl := bfsX_len (d := d) (x := x) (s := s)
    have b1 := b.step h1.1.1 h1.1.2 hd hdl
    obtain ⟨r1, r2⟩ := ih b1 q1 (by omega) (by omega) (by rw [bfsX_keep (by omega)]; exact hwd) (fun y hy => hx y (List.mem_cons_of_mem _ hy))
    rw [List.foldl_cons]
    refine ⟨r1, fun y hy => ?_⟩
    rcases List.mem_cons.1 hy with rfl | hy
    · rw [fold_keep r q2]; exact ⟨q2, q3⟩
    · exact r2 y hy
/-- The bound d of the list's end, at the k-th node. -/
def curD (s : List Int × List Int) (k : Nat) : Int := match s.2[k]? with | some w => s.1.getD w.toNat 0 | none => s.2.length
theorem pre_get {α : Type} {l m r : List α} (e : m = l ++ r) {j : Nat} (h : j < l.length) (h2 : j < m.length) : m[j] = l[j] := by subst e; exact List.getElem_append_left h
theorem bfsN_winv {ends : Ends} {v : Int} (hk : EndsOk ends) (h0 : 0 ≤ v) (h1 : v.toNat < ends.length) (k : Nat) : ∃ d, WInv ends v k d (bfsN ends v k) ∧ ∀ h : k < (bfsN ends v k).2.length, d = (bfsN ends v k).1.getD ((bfsN ends v k).2[k]).toNat 0 := by
  have hl : v.toNat < (List.replicate ends.length (-1 : Int)).length := by simpa using h1
  induction k with
  | zero =>
    refine ⟨0, ⟨fun i hi hg => ?_, ?_, fun x hx => ?_, fun j hj => by omega⟩, fun h => ?_⟩
    · simp only [bfsN] at hg ⊢
      by_cases e : v.toNat = i
      · subst e; rw [getD_set_self hl, show ((v.toNat : Nat) : Int) = v by omega]; exact .nil h0 h1
      · rw [getD_set_ne e, getD_eq (by simpa using hi)] at hg; simp at hg
    · simp [bfsN]
    · simp only [bfsN, List.mem_singleton] at hx ⊢; subst hx; rw [getD_set_self hl]; omega
    · simp only [bfsN, List.getElem_cons_zero]; exact (getD_set_self hl).symm
  | succ k ih =>
    obtain ⟨d, hW, hde⟩ := ih
    have hB := bfsN_inv hk h0 h1 k
    by_cases h : k < (bfsN ends v k).2.length
    · have hd := hde h
      have hm := hB.mem _ (List.getElem_mem h)
      have hd0 : 0 ≤ d := by rw [hd]; exact hm.2.2
      have hdl : d < (bfsN ends v k).2.length := by rw [hd]; exact (hB.rngD _ hm.2.1).2
      have hnk := near_ok hk (bfsN ends v k).2[k]
      obtain ⟨q1, q2⟩ := WInv.fold (k := k) hd0 ⟨hm.1, hm.2.1⟩ (near ends (bfsN ends v k).2[k]) hB hW (by omega) hdl hd.symm (fun x hx => ⟨hnk x hx, hx⟩)
      have hs := bfsN_succ h
      rw [← hd] at hs
      obtain ⟨r, hr⟩ := fold_pre (d := d) (near ends (bfsN ends v k).2[k]) (s := bfsN ends v k)
      rw [← hs] at q1 q2 hr
      have hB' := bfsN_inv hk h0 h1 (k + 1)
      have hlen : (bfsN ends v k).2.length ≤ (bfsN ends v (k + 1)).2.length := by rw [hr]; simp
      have hkk : (bfsN ends v (k + 1)).2[k]'(by omega) = (bfsN ends v k).2[k] := pre_get hr h _
      have hkd : (bfsN ends v (k + 1)).1.getD ((bfsN ends v k).2[k]).toNat 0 = d := by
        rw [hs, fold_keep _ (by rw [← hd]; exact hd0)]; exact hd.symm
      have hcl : ∀ j (_h : j < k + 1) (h2 : j < (bfsN ends v (k + 1)).2.length), ∀ z ∈ near ends (bfsN ends v (k + 1)).2[j], 0 ≤ (bfsN ends v (k + 1)).1.getD z.toNat 0 ∧ (bfsN ends v (k + 1)).1.getD z.toNat 0 ≤ (bfsN ends v (k + 1)).1.getD ((bfsN ends v (k + 1)).2[j]).toNat 0 + 1 := by
        intro j hj h2 z hz
        by_cases e : j = k
        · subst e
          rw [hkk] at hz ⊢
          rw [hkd]; exact q2 z hz
        · exact q1.closed j (by omega) h2 z hz
      by_cases h3 : k + 1 < (bfsN ends v (k + 1)).2.length
      · refine ⟨(bfsN ends v (k + 1)).1.getD ((bfsN ends v (k + 1)).2[k + 1]).toNat 0, ⟨q1.sound, q1.mono, fun x hx => ?_, hcl⟩, fun _ => rfl⟩
        have hm1 := (List.pairwise_iff_getElem.1 q1.mono) k (k + 1) (by omega) h3 (by omega)
        rw [hkk, hkd] at hm1
        have := q1.top x hx
        omega
      · refine ⟨d, ⟨q1.sound, q1.mono, q1.top, hcl⟩, fun h4 => absurd h4 h3⟩
    · rw [bfsN_stop (by omega)]
      exact ⟨d, ⟨hW.sound, hW.mono, hW.top, fun j hj h2 => hW.closed j (by omega) h2⟩, fun h4 => absurd h4 (by omega)⟩
/-- The search finds walks, and no shorter ones are there. -/
theorem bfs_walk {ends : Ends} {v : Int} (hk : EndsOk ends) (h0 : 0 ≤ v) (h1 : v.toNat < ends.length) {i : Nat} (hi : i < ends.length) (h : 0 ≤ (bfs ends v).getD i 0) : Walk ends ((bfs ends v).getD i 0).toNat v (i : Int) := by
  obtain ⟨d, hW, _⟩ := bfsN_winv hk h0 h1 ends.length
  exact hW.sound i hi h
theorem bfs_least {ends : Ends} {v : Int} (hk : EndsOk ends) (h0 : 0 ≤ v) (h1 : v.toNat < ends.length) {n : Nat} {y : Int} (h : Walk ends n v y) : 0 ≤ (bfs ends v).getD y.toNat 0 ∧ (bfs ends v).getD y.toNat 0 ≤ n := by
  induction h with
  | nil => have := bfs_src hk h0 h1; omega
  | snoc h hz ih =>
    have i12 := ih h0 h1
    obtain ⟨d, hW, _⟩ := bfsN_winv hk h0 h1 ends.length
    have hB := bfsN_inv hk h0 h1 ends.length
    have hwl := hB.walk
    have hy := h.rng hk
    have hm := hB.all _ hy.2 i12.1
    rw [Int.toNat_of_nonneg hy.1] at hm
    obtain ⟨j, hj, e⟩ := List.mem_iff_getElem.1 hm
    have hc := hW.closed j (by omega) hj _ (by rw [e]; exact hz)
    rw [e] at hc
    have i2 := i12.2
    have c2 := hc.2
    refine ⟨hc.1, ?_⟩
    unfold bfs at i2 ⊢
    omega
end Go.Proofs.YtdpdjbfjjlpfgaaGreatDoor
