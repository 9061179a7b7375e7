/- Contracts of the reference's network of classes, and the walks of FnExactQuotientOf and FnExactMinimalBase. -/
import Derived.Test.YtladejfcplpnaaaQuot
import Derived.Test.YtladejfcplpnaaaDrawT
import Derived.Test.YtladejfcplpnaaaLists
namespace Go.Proofs.Ytladejfcplpnaaa
open Go Go.RowKit

theorem fibsN_eq {m : List Int} {n : Nat} (hr : ∀ x ∈ m, 0 ≤ x ∧ x.toNat < n) : ∀ v, v ≤ m.length → fibsN m n v = (List.range n).map fun (c : Nat) => ((List.range v).filter fun u => decide (m.getD u 0 = (c : Int))).map fun (u : Nat) => (u : Int) := by
  intro v
  induction v with
  | zero => intro _; simp [fibsN]; exact List.ext_getElem (by simp) (fun i h1 h2 => by simp)
  | succ v ih =>
    intro hv
    have hx := hr _ (List.getElem_mem (show v < m.length by omega))
    have hl := fibsN_len m n v
    rw [fibsN_succ (by omega) (by omega)]
    refine List.ext_getElem (by simp [hl]) fun i h1 h2 => ?_
    have hi : i < n := by simpa [hl] using h1
    have e : ∀ (h : i < (fibsN m n v).length), (fibsN m n v)[i] = ((List.range v).filter fun u => decide (m.getD u 0 = (i : Int))).map fun (u : Nat) => (u : Int) := fun h => by
      have := ih (by omega)
      simp only [this, List.getElem_map, List.getElem_range]
    simp only [List.getElem_map, List.getElem_range, List.range_succ, List.filter_append, List.map_append]
    by_cases hc : m[v].toNat = i
    · subst hc
      rw [List.getElem_set_self, e]
      have hd : decide (m.getD v 0 = (m[v].toNat : Int)) = true := by rw [getD_eq (show v < m.length by omega)]; exact decide_eq_true (by omega)
      have e1 : ([v].filter fun u => decide (m.getD u 0 = (m[v].toNat : Int))) = [v] := List.filter_cons_of_pos (p := fun u : Nat => decide (m.getD u 0 = (m[v].toNat : Int))) hd
      rw [e1]; rfl
    · rw [List.getElem_set_ne hc, e]
      have hd : ¬ decide (m.getD v 0 = (i : Int)) = true := by rw [getD_eq (show v < m.length by omega)]; simp; omega
      have e1 : ([v].filter fun u => decide (m.getD u 0 = (i : Int))) = [] := List.filter_cons_of_neg (p := fun u : Nat => decide (m.getD u 0 = (i : Int))) hd
      rw [e1]; simp
/-- The first node from i on with a class. -/
def fstC (C : List Int) (i c : Nat) : Option Nat := (List.range C.length).find? fun v => decide (i ≤ v) && decide (C.getD v 0 = (c : Int))
theorem fstC_end {C : List Int} {i c : Nat} (h : C.length ≤ i) : fstC C i c = none := by
  unfold fstC
  refine List.find?_eq_none.2 fun v hv => ?_
  have := List.mem_range.1 hv
  simp; omega
theorem fstC_step {C : List Int} {i c : Nat} (h : i < C.length) : fstC C i c = if C[i] = (c : Int) then some i else fstC C (i + 1) c := by
  split
  · rename_i e
    unfold fstC
    rw [List.find?_range_eq_some]
    refine ⟨by simp [List.getD, h, e], List.mem_range.2 h, fun j hj => ?_⟩
    simp; omega
  · rename_i e
    unfold fstC
    refine find_congr fun v hv => ?_
    by_cases hvi : v = i
    · subst hvi
      have : ¬ C.getD v 0 = (c : Int) := by rw [getD_eq h]; exact e
      simp only [decide_eq_false this, Bool.and_false]
    · have : (i ≤ v) = (i + 1 ≤ v) := by apply propext; omega
      simp only [this]
def rowOf (A : Net) (C : List Int) (v : Nat) : List (Int × Int) := (A.ends.getD v []).map fun e => (C.getD e.1.toNat 0, e.2)
def cqE (A : Net) (C : List Int) (K i : Nat) : Ends := (List.range K).map fun c => match fstC C i c with | some v => rowOf A C v | none => []
def cqI (A : Net) (C : List Int) (K i : Nat) : List Int := (List.range K).map fun c => match fstC C i c with | some v => A.inputs.getD v 0 | none => 0
theorem cqE_len (A : Net) (C : List Int) (K i : Nat) : (cqE A C K i).length = K := by simp [cqE]
theorem cqI_len (A : Net) (C : List Int) (K i : Nat) : (cqI A C K i).length = K := by simp [cqI]
theorem cqE_end {A : Net} {C : List Int} {K i : Nat} (h : C.length ≤ i) : cqE A C K i = List.replicate K [] := by
  refine List.ext_getElem (by simp [cqE]) fun j h1 h2 => ?_
  simp [cqE, fstC_end h]
theorem cqI_end {A : Net} {C : List Int} {K i : Nat} (h : C.length ≤ i) : cqI A C K i = List.replicate K 0 := by
  refine List.ext_getElem (by simp [cqI]) fun j h1 h2 => ?_
  simp [cqI, fstC_end h]
theorem cqE_step {A : Net} {C : List Int} {K i : Nat} (h : i < C.length) (h0 : 0 ≤ C[i]) : (cqE A C K (i + 1)).set C[i].toNat (rowOf A C i) = cqE A C K i := by
  refine List.ext_getElem (by simp [cqE]) fun j h1 h2 => ?_
  by_cases hj : C[i].toNat = j
  · subst hj
    rw [List.getElem_set_self]
    simp only [cqE, List.getElem_map, List.getElem_range]
    rw [fstC_step h, if_pos (by omega)]
  · rw [List.getElem_set_ne hj]
    simp only [cqE, List.getElem_map, List.getElem_range]
    rw [fstC_step h, if_neg (by omega)]
theorem cqI_step {A : Net} {C : List Int} {K i : Nat} (h : i < C.length) (h0 : 0 ≤ C[i]) : (cqI A C K (i + 1)).set C[i].toNat (A.inputs.getD i 0) = cqI A C K i := by
  refine List.ext_getElem (by simp [cqI]) fun j h1 h2 => ?_
  by_cases hj : C[i].toNat = j
  · subst hj
    rw [List.getElem_set_self]
    simp only [cqI, List.getElem_map, List.getElem_range]
    rw [fstC_step h, if_pos (by omega)]
  · rw [List.getElem_set_ne hj]
    simp only [cqI, List.getElem_map, List.getElem_range]
    rw [fstC_step h, if_neg (by omega)]
theorem filter_head {p : Nat → Bool} : ∀ {l : List Nat}, 0 < (l.filter p).length → l.find? p = some (((l.filter p).map fun (u : Nat) => (u : Int)).getD 0 0).toNat := by
  intro l
  induction l with
  | nil => intro h; simp at h
  | cons x r ih =>
    intro h
    by_cases hp : p x = true
    · rw [List.find?_cons_of_pos hp, List.filter_cons_of_pos hp]; simp
    · rw [List.find?_cons_of_neg hp]
      rw [List.filter_cons_of_neg hp] at h ⊢
      exact ih h
theorem fst_hd {C : List Int} {K c : Nat} (hr : ∀ x ∈ C, 0 ≤ x ∧ x.toNat < K) (hc : c < K) (hne : 0 < ((fibs C K).getD c []).length) : fstC C 0 c = some (hd0 C K c).toNat := by
  have e : (fibs C K).getD c [] = ((List.range C.length).filter fun u => decide (C.getD u 0 = (c : Int))).map fun (u : Nat) => (u : Int) := by
    unfold fibs
    rw [fibsN_eq hr _ (Nat.le_refl _), getD_eq (by simpa using hc)]
    simp
  unfold hd0
  rw [e] at hne ⊢
  rw [← filter_head (by simpa using hne)]
  unfold fstC
  exact find_congr fun v _ => by simp
theorem cq_quo {A : Net} {C : List Int} {K : Nat} (hr : ∀ x ∈ C, 0 ≤ x ∧ x.toNat < K) (hne : ∀ c, c < K → 0 < ((fibs C K).getD c []).length) : cqE A C K 0 = (quoK A C K).ends ∧ cqI A C K 0 = (quoK A C K).inputs := by
  refine ⟨List.map_congr_left fun c hc => ?_, List.map_congr_left fun c hc => ?_⟩
  · have hc' := List.mem_range.1 hc
    simp only [fst_hd hr hc' (hne c hc')]; rfl
  · have hc' := List.mem_range.1 hc
    simp only [fst_hd hr hc' (hne c hc')]
theorem rowOf_take {A : Net} {C : List Int} {v k : Nat} (hv : v < A.ends.length) (hk : k < A.ends[v].length) (hc : A.ends[v][k].1.toNat < C.length) : (rowOf A C v).take k ++ [(C[A.ends[v][k].1.toNat], A.ends[v][k].2)] = (rowOf A C v).take (k + 1) := by
  have h : k < (rowOf A C v).length := by unfold rowOf; rw [getD_eq hv]; simpa using hk
  rw [List.take_succ_eq_append_getElem h]
  congr 2
  simp only [rowOf, List.getElem_map, getD_eq hv, getD_eq hc]
theorem rowOf_len {A : Net} {C : List Int} {v : Nat} (hv : v < A.ends.length) : (rowOf A C v).length = A.ends[v].length := by unfold rowOf; rw [getD_eq hv]; simp
theorem hasC {C : List Int} {K c : Nat} (hr : ∀ x ∈ C, 0 ≤ x ∧ x.toNat < K) (hc : c < K) : (c : Int) ∈ C ↔ 0 < ((fibs C K).getD c []).length := by
  have e : (fibs C K).getD c [] = ((List.range C.length).filter fun u => decide (C.getD u 0 = (c : Int))).map fun (u : Nat) => (u : Int) := by
    unfold fibs
    rw [fibsN_eq hr _ (Nat.le_refl _), getD_eq (by simpa using hc)]
    simp
  rw [e, List.length_map, List.length_pos_iff_exists_mem]
  constructor
  · intro h
    obtain ⟨u, hu, e⟩ := List.mem_iff_getElem.1 h
    exact ⟨u, List.mem_filter.2 ⟨List.mem_range.2 hu, decide_eq_true (by rw [getD_eq hu]; exact e)⟩⟩
  · rintro ⟨u, hu⟩
    obtain ⟨h1, h2⟩ := List.mem_filter.1 hu
    have h1 := List.mem_range.1 h1
    have h2 := of_decide_eq_true h2
    rw [getD_eq h1] at h2
    rw [← h2]; exact List.getElem_mem h1
theorem OwnAll.prows {lo hi : Nat} {w : World} {E : TypeId} {vs : List (Option Addr × Nat)} {xss : Ends} (h : OwnAll pairF 2 lo hi w E vs xss) : PRows lo hi w vs xss :=
  ⟨h.len, fun i h1 h2 => by have := h.own i h1 h2; rw [pairF_flat] at this; exact (own_p this).hi (h.top i h1)⟩
theorem OwnAll.rg {α : Type} {f : α → List Value} {sz l r lo hi p q : Nat} {w w' : World} {E : TypeId} {vs : List (Option Addr × Nat)} {xss : List (List α)} (h : OwnAll f sz l r w E vs xss) (k : Rg lo hi p q w w') (hb : (r ≤ lo ∨ hi ≤ l ∨ (p ≤ l ∧ r ≤ q)) ∧ r ≤ w.heap.size) : OwnAll f sz l r w' E vs xss := h.keep k fun b h1 h2 => ⟨by omega, by omega⟩
theorem IsNet.mono {l r l' r' : Nat} {w : World} {h : NA} {m : Net} (x : IsNet l r w h m) (h1 : l' ≤ l) (h2 : r ≤ r') : IsNet l' r' w h m := ⟨x.ends.mono h1 h2, x.ids.mono h1 h2, x.inputs.mono h1 h2⟩
/-- A network of some nodes: its rows and its numbers in blocks of their own. -/
theorem net_blocks {lo hi b1 b3 K : Nat} {w : World} {F I : TypeId} {vs : List (Option Addr × Nat)} {A : Net} (hR : PRows lo hi w vs A.ends) (hB : Blk w b1 F ((vs.zip A.ends).map fun p => rowVal p.1 p.2)) (hb1 : lo ≤ b1 ∧ b1 < hi) (hI : Blk w b3 I (A.inputs.map VI)) (hb3 : lo ≤ b3 ∧ b3 < hi) (hi0 : A.ids = []) (h1 : A.ends.length = K) (h2 : A.inputs.length = K) : IsNet lo hi w ⟨some ⟨b1, 0, none⟩, K, none, 0, some ⟨b3, 0, none⟩, K⟩ A := by
  refine ⟨hR.nest ((SAt.of_blk (ds := []) (by rw [List.append_nil]; exact hB)).mono hb1.1 (by omega)) (by show _ ≤ K; omega), ?_, ?_⟩
  · rw [hi0]; exact Ints.nil
  · exact (Blk.ints hI (by show _ ≤ K; omega)).mono hb3.1 (by omega)

set_option maxRecDepth 100000 in
theorem neEmpty_spec (K : Nat) (w : World) (hK : K ≤ 1048576) :
    Fn Try.prog 43 #[VI (K : Int)] w (fun o9 w' => ∃ b1 b3, o9 = .agg #[.slice (some ⟨b1, 0, none⟩) K K, .slice none 0 0, .slice (some ⟨b3, 0, none⟩) K K] ∧ (w.heap.size ≤ b1 ∧ b1 < w'.heap.size ∧ w.heap.size ≤ b3 ∧ b3 < w'.heap.size ∧ b1 ≠ b3) ∧ Blk w' b1 56 (List.replicate K (.slice none 0 0)) ∧ Blk w' b3 3 (List.replicate K (VI 0)) ∧ Ext w w') := by
  have hE := Ext.refl w
  refine Fn_of Try.func43 rfl rfl (by kernel_rfl) rfl ?_
  refine W_seq ?_
  refine W_region ?_
  refine WL_m rfl (ev_alloc zr31) ?_
  rintro _ w2 ⟨rfl, hN2⟩
  have hz2 := hN2.size
  replace hE := hE.trans hN2.ext
  have hB2 : Blk w2 _ _ [_, _, _] := hN2.blk
  refine WL_nil ?_
  refine thenE_n ?_
  refine W_seq ?_
  refine W_drawT (X := Unit) (fun x => []) (fun x w' => ∃ b1 b3, (w.heap.size ≤ b1 ∧ b1 < w'.heap.size ∧ w.heap.size ≤ b3 ∧ b3 < w'.heap.size ∧ b1 ≠ b3) ∧ Blk w' b1 56 (List.replicate K (.slice none 0 0)) ∧ Blk w' b3 3 (List.replicate K (VI 0)) ∧ Blk w' w.heap.size 31 [.slice (some ⟨b1, 0, none⟩) K K, .slice none 0 0, .slice (some ⟨b3, 0, none⟩) K K] ∧ Ext w w') w.heap.size (by omega) (.q 0 (.q 2 (.b 1 (.a 3 (.q 4 (.a 5 .done))) 3 (.a 1 (.q 4 (.a 5 .done)))))) mixed (by kernel_rfl) rfl (by kernel_rfl) ?_ ?_
  · intro wd1 hEd1 hzd1
    replace hE := hE.trans hEd1
    replace hB2 := hB2.ext hEd1
    have hDd1 := (Lo.refl (by omega) : Lo w.heap.size wd1 wd1)
    refine PT_q rfl rfl (fun wq hq => ev_move rfl) ?_
    refine PT_q rfl rfl (fun wq hq => ev_move rfl) ?_
    refine PT_b ?_ ?_
    · refine PA_m w.heap.size rfl rfl (ev_makeN Try.underlying29 el56 rfl rfl rfl (by omega) (by omega)) ?_
      rintro _ w4 ⟨rfl, hN4⟩
      have hz4 := hN4.size
      replace hE := hE.trans hN4.ext
      replace hDd1 := hDd1.trans hN4.ext
      replace hB2 := hB2.ext hN4.ext
      have hB4 := hN4.blk
      refine ⟨by omega, fun _ hx => ⟨hDd1.lo hx (by omega), trivial⟩, ?_⟩
      have hDd1 := (Lo.refl (by omega) : Lo w.heap.size w4 w4)
      refine PT_a ?_
      refine PA_m w.heap.size rfl rfl (ev_makeN Try.underlying23 el3 rfl rfl rfl (by omega) (by omega)) ?_
      rintro _ w6 ⟨rfl, hN6⟩
      have hz6 := hN6.size
      replace hE := hE.trans hN6.ext
      replace hDd1 := hDd1.trans hN6.ext
      replace hB2 := hB2.ext hN6.ext
      replace hB4 := hB4.ext hN6.ext
      have hB6 := hN6.blk
      refine ⟨by omega, fun _ hx => ⟨hDd1.lo hx (by omega), trivial⟩, ?_⟩
      have hDd1 := (Lo.refl (by omega) : Lo w.heap.size w6 w6)
      refine PT_q rfl rfl (fun wq hq => ev_buildP2 sn31_3 zr31 rfl rfl rfl rfl rfl rfl) ?_
      refine PT_a ?_
      refine PA_s w.heap.size rfl (ev_stores sz31 rfl rfl rfl (by simp [Value.oneCell']) hB2 (by simp)) ?_
      rintro _ w1_5 hS1_5
      have hz1_5 := hS1_5.size
      replace hE := hE.sto hS1_5 (by omega)
      replace hDd1 := hDd1.sto hS1_5 (by omega)
      replace hB4 := hB4.sto hS1_5 (by omega)
      replace hB6 := hB6.sto hS1_5 (by omega)
      replace hB2 : Blk w1_5 _ _ [_, _, _] := hS1_5.blk
      refine ⟨by omega, fun _ hx => ⟨hDd1.lo hx (by omega), trivial⟩, ?_⟩
      have hDd1 := (Lo.refl (by omega) : Lo w.heap.size w1_5 w1_5)
      exact PT_nil 5 () rfl trivial rfl ⟨hB4.num, hB6.num, ⟨(by (try dsimp only [Blk.num]); omega), (by (try dsimp only [Blk.num]); omega), (by (try dsimp only [Blk.num]); omega), (by (try dsimp only [Blk.num]); omega), (by (try dsimp only [Blk.num]); omega)⟩, hB4, hB6, hB2, hE⟩
    · refine PA_m w.heap.size rfl rfl (ev_makeN Try.underlying23 el3 rfl rfl rfl (by omega) (by omega)) ?_
      rintro _ w6 ⟨rfl, hN6⟩
      have hz6 := hN6.size
      replace hE := hE.trans hN6.ext
      replace hDd1 := hDd1.trans hN6.ext
      replace hB2 := hB2.ext hN6.ext
      have hB6 := hN6.blk
      refine ⟨by omega, fun _ hx => ⟨hDd1.lo hx (by omega), trivial⟩, ?_⟩
      have hDd1 := (Lo.refl (by omega) : Lo w.heap.size w6 w6)
      refine PT_a ?_
      refine PA_m w.heap.size rfl rfl (ev_makeN Try.underlying29 el56 rfl rfl rfl (by omega) (by omega)) ?_
      rintro _ w4 ⟨rfl, hN4⟩
      have hz4 := hN4.size
      replace hE := hE.trans hN4.ext
      replace hDd1 := hDd1.trans hN4.ext
      replace hB2 := hB2.ext hN4.ext
      replace hB6 := hB6.ext hN4.ext
      have hB4 := hN4.blk
      refine ⟨by omega, fun _ hx => ⟨hDd1.lo hx (by omega), trivial⟩, ?_⟩
      have hDd1 := (Lo.refl (by omega) : Lo w.heap.size w4 w4)
      refine PT_q rfl rfl (fun wq hq => ev_buildP2 sn31_3 zr31 rfl rfl rfl rfl rfl rfl) ?_
      refine PT_a ?_
      refine PA_s w.heap.size rfl (ev_stores sz31 rfl rfl rfl (by simp [Value.oneCell']) hB2 (by simp)) ?_
      rintro _ w1_5 hS1_5
      have hz1_5 := hS1_5.size
      replace hE := hE.sto hS1_5 (by omega)
      replace hDd1 := hDd1.sto hS1_5 (by omega)
      replace hB6 := hB6.sto hS1_5 (by omega)
      replace hB4 := hB4.sto hS1_5 (by omega)
      replace hB2 : Blk w1_5 _ _ [_, _, _] := hS1_5.blk
      refine ⟨by omega, fun _ hx => ⟨hDd1.lo hx (by omega), trivial⟩, ?_⟩
      have hDd1 := (Lo.refl (by omega) : Lo w.heap.size w1_5 w1_5)
      exact PT_nil 5 () rfl trivial rfl ⟨hB4.num, hB6.num, ⟨(by (try dsimp only [Blk.num]); omega), (by (try dsimp only [Blk.num]); omega), (by (try dsimp only [Blk.num]); omega), (by (try dsimp only [Blk.num]); omega), (by (try dsimp only [Blk.num]); omega)⟩, hB4, hB6, hB2, hE⟩
  rintro _ wt1 ⟨b1, b3, hx, hB4, hB6, hB2, hE⟩
  dsimp only [List.cons_append, List.nil_append]
  refine thenE_n ?_
  refine W_ret ?_
  refine retc rfl rfl st31 sz31 (cellsB hB2) rfl ?_
  exact ⟨b1, b3, rfl, hx, hB4, hB6, hE⟩

theorem foldl_max_mem (r : List Int) : ∀ a : Int, r.foldl max a = a ∨ r.foldl max a ∈ r := by
  induction r with
  | nil => intro a; exact .inl rfl
  | cons x r ih =>
    intro a
    rw [List.foldl_cons]
    rcases ih (max a x) with h | h
    · rw [h]
      rcases Int.le_total a x with k | k
      · rw [Int.max_eq_right k]; exact .inr (List.mem_cons_self ..)
      · rw [Int.max_eq_left k]; exact .inl rfl
    · exact .inr (List.mem_cons_of_mem _ h)
theorem lmax_mem {xs : List Int} (h : 0 < xs.length) : lmax xs ∈ xs := by
  cases xs with
  | nil => simp at h
  | cons y r =>
    show r.foldl max y ∈ y :: r
    rcases foldl_max_mem r y with e | e
    · rw [e]; exact List.mem_cons_self ..
    · exact List.mem_cons_of_mem _ e
theorem RV_and {α : Type} {z x y : α} {V P : Prop} {q : Bool} (h : V) (k : RV z (opt P x) y q) : RV z (opt (V ∧ P) x) y q := by
  have e : opt (V ∧ P) x = opt P x := by
    unfold opt
    by_cases hp : P
    · rw [if_pos hp, if_pos ⟨h, hp⟩]
    · rw [if_neg hp, if_neg fun h9 => hp h9.2]
  rw [e]; exact k

end Go.Proofs.Ytladejfcplpnaaa
