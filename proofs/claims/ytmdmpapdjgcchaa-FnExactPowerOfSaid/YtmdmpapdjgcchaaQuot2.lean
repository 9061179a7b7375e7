/- Contracts of the reference's network of classes, and the walks of FnExactQuotientOf and FnExactMinimalBase. -/
import Derived.Test.YtmdmpapdjgcchaaQuot
import Derived.Test.YtmdmpapdjgcchaaDrawT
import Derived.Test.YtmdmpapdjgcchaaLists
namespace Go.Proofs.Ytmdmpapdjgcchaa
open Go Go.RowKit

theorem fibsN_eq {m : List Int} {n : Nat} (hr : ∀ x ∈ m, 0 ≤ x ∧ x.toNat < n) : ∀ v, v ≤ m.length → fibsN m n v = (List.range n).map fun (c : Nat) => ((List.range v).filter fun u => decide (m.getD u 0 = (c : Int))).map fun (u : Nat) => (u : Int) := by
  intro v
  induction v with
  | zero => intro _; simp [fibsN]; exact List.ext_getElem (by simp) (fun i h1 h2 => by simp)
  | succ v ih =>
    intro hv
    have hx := hr _ (List.getElem_mem (show v < m.length by omega))
    have hl := fibsN_len m n v
    rw [fibsN_succ (by omega) (by omega)]
    refine List.ext_getElem (by simp [hl]) fun i h1 h2 => ?_
    have hi : i < n := by simpa [hl] using h1
    have e : ∀ (h : i < (fibsN m n v).length), (fibsN m n v)[i] = ((List.range v).filter fun u => decide (m.getD u 0 = (i : Int))).map fun (u : Nat) => (u : Int) := fun h => by
      have := ih (by omega)
      simp only [this, List.getElem_map, List.getElem_range]
    simp only [List.getElem_map, List.getElem_range, List.range_succ, List.filter_append, List.map_append]
    by_cases hc : m[v].toNat = i
    · subst hc
      rw [List.getElem_set_self, e]
      have hd : decide (m.getD v 0 = (m[v].toNat : Int)) = true := by rw [getD_eq (show v < m.length by omega)]; exact decide_eq_true (by omega)
      have e1 : ([v].filter fun u => decide (m.getD u 0 = (m[v].toNat : Int))) = [v] := List.filter_cons_of_pos (p := fun u : Nat => decide (m.getD u 0 = (m[v].toNat : Int))) hd
      rw [e1]; rfl
    · rw [List.getElem_set_ne hc, e]
      have hd : ¬ decide (m.getD v 0 = (i : Int)) = true := by rw [getD_eq (show v < m.length by omega)]; simp; omega
      have e1 : ([v].filter fun u => decide (m.getD u 0 = (i : Int))) = [] := List.filter_cons_of_neg (p := fun u : Nat => decide (m.getD u 0 = (i : Int))) hd
      rw [e1]; simp
/-- The first node from i on with a class. -/
def fstC (C : List Int) (i c : Nat) : Option Nat := (List.range C.length).find? fun v => decide (i ≤ v) && decide (C.getD v 0 = (c : Int))
theorem fstC_end {C : List Int} {i c : Nat} (h : C.length ≤ i) : fstC C i c = none := by
  unfold fstC
  refine List.find?_eq_none.2 fun v hv => ?_
  have := List.mem_range.1 hv
  simp; omega
theorem fstC_step {C : List Int} {i c : Nat} (h : i < C.length) : fstC C i c = if C[i] = (c : Int) then some i else fstC C (i + 1) c := by
  split
  · rename_i e
    unfold fstC
    rw [List.find?_range_eq_some]
    refine ⟨by simp [List.getD, h, e], List.mem_range.2 h, fun j hj => ?_⟩
    simp; omega
  · rename_i e
    unfold fstC
    refine find_congr fun v hv => ?_
    by_cases hvi : v = i
    · subst hvi
      have : ¬ C.getD v 0 = (c : Int) := by rw [getD_eq h]; exact e
      simp only [decide_eq_false this, Bool.and_false]
    · have : (i ≤ v) = (i + 1 ≤ v) := by apply propext; omega
      simp only [this]
def rowOf (A : Net) (C : List Int) (v : Nat) : List (Int × Int) := (A.ends.getD v []).map fun e => (C.getD e.1.toNat 0, e.2)
def cqE (A : Net) (C : List Int) (K i : Nat) : Ends := (List.range K).map fun c => match fstC C i c with | some v => rowOf A C v | none => []
def cqI (A : Net) (C : List Int) (K i : Nat) : List Int := (List.range K).map fun c => match fstC C i c with | some v => A.inputs.getD v 0 | none => 0
theorem cqE_len (A : Net) (C : List Int) (K i : Nat) : (cqE A C K i).length = K := by simp [cqE]
theorem cqI_len (A : Net) (C : List Int) (K i : Nat) : (cqI A C K i).length = K := by simp [cqI]
theorem cqE_end {A : Net} {C : List Int} {K i : Nat} (h : C.length ≤ i) : cqE A C K i = List.replicate K [] := by
  refine List.ext_getElem (by simp [cqE]) fun j h1 h2 => ?_
  simp [cqE, fstC_end h]
theorem cqI_end {A : Net} {C : List Int} {K i : Nat} (h : C.length ≤ i) : cqI A C K i = List.replicate K 0 := by
  refine List.ext_getElem (by simp [cqI]) fun j h1 h2 => ?_
  simp [cqI, fstC_end h]
theorem cqE_step {A : Net} {C : List Int} {K i : Nat} (h : i < C.length) (h0 : 0 ≤ C[i]) : (cqE A C K (i + 1)).set C[i].toNat (rowOf A C i) = cqE A C K i := by
  refine List.ext_getElem (by simp [cqE]) fun j h1 h2 => ?_
  by_cases hj : C[i].toNat = j
  · subst hj
    rw [List.getElem_set_self]
    simp only [cqE, List.getElem_map, List.getElem_range]
    rw [fstC_step h, if_pos (by omega)]
  · rw [List.getElem_set_ne hj]
    simp only [cqE, List.getElem_map, List.getElem_range]
    rw [fstC_step h, if_neg (by omega)]
theorem cqI_step {A : Net} {C : List Int} {K i : Nat} (h : i < C.length) (h0 : 0 ≤ C[i]) : (cqI A C K (i + 1)).set C[i].toNat (A.inputs.getD i 0) = cqI A C K i := by
  refine List.ext_getElem (by simp [cqI]) fun j h1 h2 => ?_
  by_cases hj : C[i].toNat = j
  · subst hj
    rw [List.getElem_set_self]
    simp only [cqI, List.getElem_map, List.getElem_range]
    rw [fstC_step h, if_pos (by omega)]
  · rw [List.getElem_set_ne hj]
    simp only [cqI, List.getElem_map, List.getElem_range]
    rw [fstC_step h, if_neg (by omega)]
theorem filter_head {p : Nat → Bool} : ∀ {l : List Nat}, 0 < (l.filter p).length → l.find? p = some (((l.filter p).map fun (u : Nat) => (u : Int)).getD 0 0).toNat := by
  intro l
  induction l with
  | nil => intro h; simp at h
  | cons x r ih =>
    intro h
    by_cases hp : p x = true
    · rw [List.find?_cons_of_pos hp, List.filter_cons_of_pos hp]; simp
    · rw [List.find?_cons_of_neg hp]
      rw [List.filter_cons_of_neg hp] at h ⊢
      exact ih h
theorem fst_hd {C : List Int} {K c : Nat} (hr : ∀ x ∈ C, 0 ≤ x ∧ x.toNat < K) (hc : c < K) (hne : 0 < ((fibs C K).getD c []).length) : fstC C 0 c = some (hd0 C K c).toNat := by
  have e : (fibs C K).getD c [] = ((List.range C.length).filter fun u => decide (C.getD u 0 = (c : Int))).map fun (u : Nat) => (u : Int) := by
    unfold fibs
    rw [fibsN_eq hr _ (Nat.le_refl _), getD_eq (by simpa using hc)]
    simp
  unfold hd0
  rw [e] at hne ⊢
  rw [← filter_head (by simpa using hne)]
  unfold fstC
  exact find_congr fun v _ => by simp
theorem cq_quo {A : Net} {C : List Int} {K : Nat} (hr : ∀ x ∈ C, 0 ≤ x ∧ x.toNat < K) (hne : ∀ c, c < K → 0 < ((fibs C K).getD c []).length) : cqE A C K 0 = (quoK A C K).ends ∧ cqI A C K 0 = (quoK A C K).inputs := by
  refine ⟨List.map_congr_left fun c hc => ?_, List.map_congr_left fun c hc => ?_⟩
  · have hc' := List.mem_range.1 hc
    simp only [fst_hd hr hc' (hne c hc')]; rfl
  · have hc' := List.mem_range.1 hc
    simp only [fst_hd hr hc' (hne c hc')]
theorem rowOf_take {A : Net} {C : List Int} {v k : Nat} (hv : v < A.ends.length) (hk : k < A.ends[v].length) (hc : A.ends[v][k].1.toNat < C.length) : (rowOf A C v).take k ++ [(C[A.ends[v][k].1.toNat], A.ends[v][k].2)] = (rowOf A C v).take (k + 1) := by
  have h : k < (rowOf A C v).length := by unfold rowOf; rw [getD_eq hv]; simpa using hk
  rw [List.take_succ_eq_append_getElem h]
  congr 2
  simp only [rowOf, List.getElem_map, getD_eq hv, getD_eq hc]
theorem rowOf_len {A : Net} {C : List Int} {v : Nat} (hv : v < A.ends.length) : (rowOf A C v).length = A.ends[v].length := by unfold rowOf; rw [getD_eq hv]; simp
theorem hasC {C : List Int} {K c : Nat} (hr : ∀ x ∈ C, 0 ≤ x ∧ x.toNat < K) (hc : c < K) : (c : Int) ∈ C ↔ 0 < ((fibs C K).getD c []).length := by
  have e : (fibs C K).getD c [] = ((List.range C.length).filter fun u => decide (C.getD u 0 = (c : Int))).map fun (u : Nat) => (u : Int) := by
    unfold fibs
    rw [fibsN_eq hr _ (Nat.le_refl _), getD_eq (by simpa using hc)]
    simp
  rw [e, List.length_map, List.length_pos_iff_exists_mem]
  constructor
  · intro h
    obtain ⟨u, hu, e⟩ := List.mem_iff_getElem.1 h
    exact ⟨u, List.mem_filter.2 ⟨List.mem_range.2 hu, decide_eq_true (by rw [getD_eq hu]; exact e)⟩⟩
  · rintro ⟨u, hu⟩
    obtain ⟨h1, h2⟩ := List.mem_filter.1 hu
    have h1 := List.mem_range.1 h1
    have h2 := of_decide_eq_true h2
    rw [getD_eq h1] at h2
    rw [← h2]; exact List.getElem_mem h1
theorem OwnAll.prows {lo hi : Nat} {w : World} {E : TypeId} {vs : List (Option Addr × Nat)} {xss : Ends} (h : OwnAll pairF 2 lo hi w E vs xss) : PRows lo hi w vs xss :=
  ⟨h.len, fun i h1 h2 => by have := h.own i h1 h2; rw [pairF_flat] at this; exact (own_p this).hi (h.top i h1)⟩
theorem OwnAll.rg {α : Type} {f : α → List Value} {sz l r lo hi p q : Nat} {w w' : World} {E : TypeId} {vs : List (Option Addr × Nat)} {xss : List (List α)} (h : OwnAll f sz l r w E vs xss) (k : Rg lo hi p q w w') (hb : (r ≤ lo ∨ hi ≤ l ∨ (p ≤ l ∧ r ≤ q)) ∧ r ≤ w.heap.size) : OwnAll f sz l r w' E vs xss := h.keep k fun b h1 h2 => ⟨by omega, by omega⟩
theorem IsNet.mono {l r l' r' : Nat} {w : World} {h : NA} {m : Net} (x : IsNet l r w h m) (h1 : l' ≤ l) (h2 : r ≤ r') : IsNet l' r' w h m := ⟨x.ends.mono h1 h2, x.ids.mono h1 h2, x.inputs.mono h1 h2⟩
/-- A network of some nodes: its rows and its numbers in blocks of their own. -/
theorem net_blocks {lo hi b1 b3 K : Nat} {w : World} {F I : TypeId} {vs : List (Option Addr × Nat)} {A : Net} (hR : PRows lo hi w vs A.ends) (hB : Blk w b1 F ((vs.zip A.ends).map fun p => rowVal p.1 p.2)) (hb1 : lo ≤ b1 ∧ b1 < hi) (hI : Blk w b3 I (A.inputs.map VI)) (hb3 : lo ≤ b3 ∧ b3 < hi) (hi0 : A.ids = []) (h1 : A.ends.length = K) (h2 : A.inputs.length = K) : IsNet lo hi w ⟨some ⟨b1, 0, none⟩, K, none, 0, some ⟨b3, 0, none⟩, K⟩ A := by
  refine ⟨hR.nest ((SAt.of_blk (ds := []) (by rw [List.append_nil]; exact hB)).mono hb1.1 (by omega)) (by show _ ≤ K; omega), ?_, ?_⟩
  · rw [hi0]; exact Ints.nil
  · exact (Blk.ints hI (by show _ ≤ K; omega)).mono hb3.1 (by omega)

set_option maxRecDepth 100000 in
theorem neEmpty_spec (K : Nat) (w : World) (hK : K ≤ 1048576) :
    Fn Try.prog 64 #[VI (K : Int)] w (fun o9 w' => ∃ b1 b3, o9 = .agg #[.slice (some ⟨b1, 0, none⟩) K K, .slice none 0 0, .slice (some ⟨b3, 0, none⟩) K K] ∧ (w.heap.size ≤ b1 ∧ b1 < w'.heap.size ∧ w.heap.size ≤ b3 ∧ b3 < w'.heap.size ∧ b1 ≠ b3) ∧ Blk w' b1 69 (List.replicate K (.slice none 0 0)) ∧ Blk w' b3 3 (List.replicate K (VI 0)) ∧ Ext w w') := by
  have hE := Ext.refl w
  refine Fn_of Try.func64 rfl rfl (by kernel_rfl) rfl ?_
  refine W_seq ?_
  refine W_region ?_
  refine WL_m rfl (ev_alloc zr29) ?_
  rintro _ w2 ⟨rfl, hN2⟩
  have hz2 := hN2.size
  replace hE := hE.trans hN2.ext
  have hB2 : Blk w2 _ _ [_, _, _] := hN2.blk
  refine WL_nil ?_
  refine thenE_n ?_
  refine W_seq ?_
  refine W_drawT (X := Unit) (fun x => []) (fun x w' => ∃ b1 b3, (w.heap.size ≤ b1 ∧ b1 < w'.heap.size ∧ w.heap.size ≤ b3 ∧ b3 < w'.heap.size ∧ b1 ≠ b3) ∧ Blk w' b1 69 (List.replicate K (.slice none 0 0)) ∧ Blk w' b3 3 (List.replicate K (VI 0)) ∧ Blk w' w.heap.size 29 [.slice (some ⟨b1, 0, none⟩) K K, .slice none 0 0, .slice (some ⟨b3, 0, none⟩) K K] ∧ Ext w w') w.heap.size (by omega) (.q 0 (.q 2 (.b 1 (.a 3 (.q 4 (.a 5 .done))) 3 (.a 1 (.q 4 (.a 5 .done)))))) mixed (by kernel_rfl) rfl (by kernel_rfl) ?_ ?_
  · intro wd1 hEd1 hzd1
    replace hE := hE.trans hEd1
    replace hB2 := hB2.ext hEd1
    have hDd1 := (Lo.refl (by omega) : Lo w.heap.size wd1 wd1)
    refine PT_q rfl rfl (fun wq hq => ev_move rfl) ?_
    refine PT_q rfl rfl (fun wq hq => ev_move rfl) ?_
    refine PT_b ?_ ?_
    · refine PA_m w.heap.size rfl rfl (ev_makeN Try.underlying27 el69 rfl rfl rfl (by omega) (by omega)) ?_
      rintro _ w4 ⟨rfl, hN4⟩
      have hz4 := hN4.size
      replace hE := hE.trans hN4.ext
      replace hDd1 := hDd1.trans hN4.ext
      replace hB2 := hB2.ext hN4.ext
      have hB4 := hN4.blk
      refine ⟨by omega, fun _ hx => ⟨hDd1.lo hx (by omega), trivial⟩, ?_⟩
      have hDd1 := (Lo.refl (by omega) : Lo w.heap.size w4 w4)
      refine PT_a ?_
      refine PA_m w.heap.size rfl rfl (ev_makeN Try.underlying23 el3 rfl rfl rfl (by omega) (by omega)) ?_
      rintro _ w6 ⟨rfl, hN6⟩
      have hz6 := hN6.size
      replace hE := hE.trans hN6.ext
      replace hDd1 := hDd1.trans hN6.ext
      replace hB2 := hB2.ext hN6.ext
      replace hB4 := hB4.ext hN6.ext
      have hB6 := hN6.blk
      refine ⟨by omega, fun _ hx => ⟨hDd1.lo hx (by omega), trivial⟩, ?_⟩
      have hDd1 := (Lo.refl (by omega) : Lo w.heap.size w6 w6)
      refine PT_q rfl rfl (fun wq hq => ev_buildP2 sn29_3 zr29 rfl rfl rfl rfl rfl rfl) ?_
      refine PT_a ?_
      refine PA_s w.heap.size rfl (ev_stores sz29 rfl rfl rfl (by simp [Value.oneCell']) hB2 (by simp)) ?_
      rintro _ w1_5 hS1_5
      have hz1_5 := hS1_5.size
      replace hE := hE.sto hS1_5 (by omega)
      replace hDd1 := hDd1.sto hS1_5 (by omega)
      replace hB4 := hB4.sto hS1_5 (by omega)
      replace hB6 := hB6.sto hS1_5 (by omega)
      replace hB2 : Blk w1_5 _ _ [_, _, _] := hS1_5.blk
      refine ⟨by omega, fun _ hx => ⟨hDd1.lo hx (by omega), trivial⟩, ?_⟩
      have hDd1 := (Lo.refl (by omega) : Lo w.heap.size w1_5 w1_5)
      exact PT_nil 5 () rfl trivial rfl ⟨hB4.num, hB6.num, ⟨(by (try dsimp only [Blk.num]); omega), (by (try dsimp only [Blk.num]); omega), (by (try dsimp only [Blk.num]); omega), (by (try dsimp only [Blk.num]); omega), (by (try dsimp only [Blk.num]); omega)⟩, hB4, hB6, hB2, hE⟩
    · refine PA_m w.heap.size rfl rfl (ev_makeN Try.underlying23 el3 rfl rfl rfl (by omega) (by omega)) ?_
      rintro _ w6 ⟨rfl, hN6⟩
      have hz6 := hN6.size
      replace hE := hE.trans hN6.ext
      replace hDd1 := hDd1.trans hN6.ext
      replace hB2 := hB2.ext hN6.ext
      have hB6 := hN6.blk
      refine ⟨by omega, fun _ hx => ⟨hDd1.lo hx (by omega), trivial⟩, ?_⟩
      have hDd1 := (Lo.refl (by omega) : Lo w.heap.size w6 w6)
      refine PT_a ?_
      refine PA_m w.heap.size rfl rfl (ev_makeN Try.underlying27 el69 rfl rfl rfl (by omega) (by omega)) ?_
      rintro _ w4 ⟨rfl, hN4⟩
      have hz4 := hN4.size
      replace hE := hE.trans hN4.ext
      replace hDd1 := hDd1.trans hN4.ext
      replace hB2 := hB2.ext hN4.ext
      replace hB6 := hB6.ext hN4.ext
      have hB4 := hN4.blk
      refine ⟨by omega, fun _ hx => ⟨hDd1.lo hx (by omega), trivial⟩, ?_⟩
      have hDd1 := (Lo.refl (by omega) : Lo w.heap.size w4 w4)
      refine PT_q rfl rfl (fun wq hq => ev_buildP2 sn29_3 zr29 rfl rfl rfl rfl rfl rfl) ?_
      refine PT_a ?_
      refine PA_s w.heap.size rfl (ev_stores sz29 rfl rfl rfl (by simp [Value.oneCell']) hB2 (by simp)) ?_
      rintro _ w1_5 hS1_5
      have hz1_5 := hS1_5.size
      replace hE := hE.sto hS1_5 (by omega)
      replace hDd1 := hDd1.sto hS1_5 (by omega)
      replace hB6 := hB6.sto hS1_5 (by omega)
      replace hB4 := hB4.sto hS1_5 (by omega)
      replace hB2 : Blk w1_5 _ _ [_, _, _] := hS1_5.blk
      refine ⟨by omega, fun _ hx => ⟨hDd1.lo hx (by omega), trivial⟩, ?_⟩
      have hDd1 := (Lo.refl (by omega) : Lo w.heap.size w1_5 w1_5)
      exact PT_nil 5 () rfl trivial rfl ⟨hB4.num, hB6.num, ⟨(by (try dsimp only [Blk.num]); omega), (by (try dsimp only [Blk.num]); omega), (by (try dsimp only [Blk.num]); omega), (by (try dsimp only [Blk.num]); omega), (by (try dsimp only [Blk.num]); omega)⟩, hB4, hB6, hB2, hE⟩
  rintro _ wt1 ⟨b1, b3, hx, hB4, hB6, hB2, hE⟩
  dsimp only [List.cons_append, List.nil_append]
  refine thenE_n ?_
  refine W_ret ?_
  refine retc rfl rfl st29 sz29 (cellsB hB2) rfl ?_
  exact ⟨b1, b3, rfl, hx, hB4, hB6, hE⟩

set_option maxHeartbeats 1000000 in
set_option maxRecDepth 100000 in
theorem coQuotient_spec {loA hiA : Nat} (nA : NA) (A : Net) {loC hiC : Nat} (aC : Option Addr) (cC : Nat) (C : List Int) (K : Nat) (w : World) (hA : IsNet loA hiA w nA A) (hhiA : hiA ≤ w.heap.size) (hnA : totN A ≤ 1048576) (hC : Ints loC hiC w aC cC C) (hhiC : hiC ≤ w.heap.size) (hnC : C.length ≤ 1048576) (hkA : NOk A) (hCl : C.length = A.ends.length) (hrC : ∀ x ∈ C, 0 ≤ x ∧ x.toNat < K) (hK : K ≤ 40) (hne : ∀ c, c < K → 0 < ((fibs C K).getD c []).length) :
    Fn Try.prog 39 #[netV nA A, .slice aC C.length cC, VI (K : Int)] w (fun o9 w' => ∃ h', o9 = netV h' (quoK A C K) ∧ IsNet w.heap.size w'.heap.size w' h' (quoK A C K) ∧ Ext w w') := by
  have hqA := totL_len A.ends
  have hmA : totL A.ends + A.ids.length + A.inputs.length ≤ 1048576 := hnA
  have hndA := hkA.nodes
  have hinA := hkA.inLen
  have hE := Ext.refl w
  refine Fn_of Try.func39 rfl rfl (by kernel_rfl) rfl ?_
  refine W_seq ?_
  refine W_region ?_
  refine WL_m rfl (ev_box rfl) ?_
  rintro _ w3 ⟨rfl, hN3⟩
  have hz3 := hN3.size
  replace hE := hE.trans hN3.ext
  replace hA := hA.ext hN3.ext
  replace hC := hC.ext hN3.ext
  have hB3 : Blk w3 _ _ [_, _, _] := hN3.blk
  refine WL_m rfl (ev_alloc zr29) ?_
  rintro _ w6 ⟨rfl, hN6⟩
  have hz6 := hN6.size
  replace hE := hE.trans hN6.ext
  replace hA := hA.ext hN6.ext
  replace hC := hC.ext hN6.ext
  replace hB3 := hB3.ext hN6.ext
  have hB6 : Blk w6 _ _ [_, _, _] := hN6.blk
  refine WL_nil ?_
  refine thenE_n ?_
  refine W_seq ?_
  refine W_region ?_
  refine WL_q rfl (ev_move rfl) ?_
  refine WL_m rfl (ev_call rfl (neEmpty_spec _ _ (by omega))) ?_
  rintro _ w13 ⟨b13, d13, rfl, hx13, hBo13, hBi13, hE13⟩
  have hz13 := hE13.size
  replace hE := hE.trans hE13
  replace hA := hA.ext hE13
  replace hC := hC.ext hE13
  replace hB3 := hB3.ext hE13
  replace hB6 := hB6.ext hE13
  refine WL_m rfl (ev_alloc zr29) ?_
  rintro _ w7 ⟨rfl, hN7⟩
  have hz7 := hN7.size
  replace hE := hE.trans hN7.ext
  replace hA := hA.ext hN7.ext
  replace hC := hC.ext hN7.ext
  replace hB3 := hB3.ext hN7.ext
  replace hB6 := hB6.ext hN7.ext
  replace hBo13 := hBo13.ext hN7.ext
  replace hBi13 := hBi13.ext hN7.ext
  have hB7 : Blk w7 _ _ [_, _, _] := hN7.blk
  refine WL_s (ev_stores sz29 rfl rfl rfl (by simp [Value.oneCell']) hB7 (by simp)) ?_
  rintro _ w1_3 hS1_3
  have hz1_3 := hS1_3.size
  replace hE := hE.sto hS1_3 (by omega)
  replace hA := hA.sto hS1_3 (by omega)
  replace hC := hC.sto hS1_3 (by omega)
  replace hB3 := hB3.sto hS1_3 (by omega)
  replace hB6 := hB6.sto hS1_3 (by omega)
  replace hBo13 := hBo13.sto hS1_3 (by omega)
  replace hBi13 := hBi13.sto hS1_3 (by omega)
  replace hB7 : Blk w1_3 _ _ [_, _, _] := hS1_3.blk
  refine WL_nil ?_
  refine thenE_n ?_
  refine W_seq ?_
  refine W_seq ?_
  refine W_region ?_
  refine WL_q rfl (ev_fieldAddr fo29_0 rfl) ?_
  refine WL_q rfl (ev_load one27 rfl (hB3.cell rfl)) ?_
  refine WL_q rfl (ev_len Try.underlying27 rfl) ?_
  refine WL_q rfl (ev_sub rfl rfl (by omega)) ?_
  refine WL_q rfl (ev_assign rfl) ?_
  refine WL_nil ?_
  refine thenE_n ?_
  refine W_block ?_
  have hBo0 : Blk w1_3 b13 69 (((List.replicate K ((none : Option Addr), 0)).zip (cqE A C K A.ends.length)).map fun p => rowVal p.1 p.2) := by rw [cqE_end (by omega), rowv_nils]; exact hBo13
  have hBi0 : Blk w1_3 d13 3 ((cqI A C K A.ends.length).map VI) := by rw [cqI_end (by omega), List.map_replicate]; exact hBi13
  have hOA0 : OwnAll pairF 2 w1_3.heap.size w1_3.heap.size w1_3 71 (List.replicate K ((none : Option Addr), 0)) (cqE A C K A.ends.length) := by rw [cqE_end (by omega)]; exact OwnAll.nils _
  refine W_loopC (G := Nat × List (Option Addr × Nat)) [(1, _), (3, _), (6, _), (7, _)] ((Subs.c rfl (Subs.c rfl (Subs.c rfl (Subs.c rfl Subs.n))))) (fun ⟨i, vs⟩ => [(8, VI ((i : Int) - 1))]) (fun ⟨i, vs⟩ w' => Rg w6.heap.size w13.heap.size 0 0 w1_3 w' ∧ i ≤ A.ends.length ∧ Blk w' b13 69 ((vs.zip (cqE A C K i)).map fun p => rowVal p.1 p.2) ∧ Blk w' d13 3 ((cqI A C K i).map VI) ∧ OwnAll pairF 2 w1_3.heap.size w'.heap.size w' 71 vs (cqE A C K i)) (fun g => g.1) (A.ends.length, List.replicate K (none, 0)) ((Subs.c (lkI rfl (by omega)) Subs.n)) (⟨Rg.refl, ⟨Nat.le_refl _, hBo0, hBi0, hOA0⟩⟩) ?_
  rintro ⟨i, vs⟩ wL0 ⟨hRL0, hi', hBo, hBi, hOA⟩
  have hzL0 := hRL0.size
  replace hA := hA.rg hRL0 (by omega)
  replace hC := hC.rg hRL0 (by omega)
  replace hB3 := hB3.rg hRL0 (by omega)
  replace hB6 := hB6.rg hRL0 (by omega)
  replace hB7 := hB7.rg hRL0 (by omega)
  replace hE := hE.rg hRL0 (by omega)
  refine W_seq ?_
  refine W_seq ?_
  refine W_region ?_
  refine WL_q rfl (ev_move rfl) ?_
  refine WL_q rfl (ev_geq rfl rfl) ?_
  refine WL_nil ?_
  refine thenE_n ?_
  refine W_cond rfl (fun hg19 => ?_) (fun hg19 => ?_)
  · have hp19 := of_decide_eq_true hg19
    refine W_skip ?_
    refine thenE_n ?_
    refine W_seq ?_
    refine W_block ?_
    refine W_seq ?_
    refine W_region ?_
    obtain ⟨v, rfl⟩ : ∃ v, i = v + 1 := ⟨i - 1, by omega⟩
    dsimp only
    rw [show (((v + 1 : Nat) : Int) - 1) = (v : Int) by omega]
    have hvlt : v < A.ends.length := by omega
    have hvC : v < C.length := by omega
    have hcv := hrC _ (List.getElem_mem hvC)
    have hc1 := hcv.1
    have hc2 := hcv.2
    have hql := cqE_len A C K (v + 1)
    have hqi := cqI_len A C K (v + 1)
    have hvl := hOA.len
    have hrl := rowOf_len (A := A) (C := C) hvlt
    refine WL_q rfl (ev_assign rfl) ?_
    refine WL_nil ?_
    refine thenE_n ?_
    refine W_seq ?_
    refine W_seq ?_
    refine W_region ?_
    refine WL_q rfl (ev_fieldAddr fo29_0 rfl) ?_
    refine WL_q rfl (ev_load one27 rfl (hB3.cell rfl)) ?_
    refine WL_q rfl (ev_move rfl) ?_
    have hl25 : v < A.ends.length := by omega
    have ht25 := totL_le hl25
    obtain ⟨a25, c25, hc25, hr25⟩ := hA.ends.row hl25
    refine WL_q rfl (ev_indexAddr Try.underlying27 sz69 rfl rfl (hA.ends.isSome (by omega)) (by omega) (by omega)) ?_
    refine WL_q rfl (ev_load one69 rfl (hc25)) ?_
    refine WL_q rfl (ev_len Try.underlying69 rfl) ?_
    refine WL_q rfl (ev_move rfl) ?_
    refine WL_nil ?_
    refine thenE_n ?_
    refine W_block ?_
    refine W_loopC (G := Nat × Option Addr × Nat) [(1, _), (3, _), (6, _), (7, _), (8, _), (26, _), (27, _)] ((Subs.c rfl (Subs.c rfl (Subs.c rfl (Subs.c rfl (Subs.c rfl (Subs.c rfl (Subs.c rfl Subs.n)))))))) (fun ⟨k, a, c⟩ => [(9, .slice a k c), (28, VI (k : Int))]) (fun ⟨k, a, c⟩ w' => Ext wL0 w' ∧ k ≤ A.ends[v].length ∧ OwnH wL0.heap.size w'.heap.size 0 0 w' 71 2 a k c (pairCells ((rowOf A C v).take k))) (fun g => A.ends[v].length - g.1) (0, none, 0) ((Subs.c rfl (Subs.c (lkI rfl (by omega)) Subs.n))) (⟨Ext.refl _, ⟨Nat.zero_le _, OwnH.nil⟩⟩) ?_
    rintro ⟨k, a, c⟩ wL2 ⟨hRL2, hk', hO⟩
    have hzL2 := hRL2.size
    replace hE := hE.trans hRL2
    replace hRL0 := hRL0.trans hRL2
    replace hA := hA.ext hRL2
    replace hC := hC.ext hRL2
    replace hB3 := hB3.ext hRL2
    replace hB6 := hB6.ext hRL2
    replace hB7 := hB7.ext hRL2
    replace hBo := hBo.ext hRL2
    replace hBi := hBi.ext hRL2
    replace hOA := hOA.ext hRL2
    replace hr25 := hr25.ext hRL2
    refine W_seq ?_
    refine W_region ?_
    refine WL_q rfl (ev_lss rfl rfl) ?_
    refine WL_nil ?_
    refine thenE_n ?_
    refine W_seq ?_
    refine W_cond rfl (fun hg29 => ?_) (fun hg29 => ?_)
    · have hp29 := of_decide_eq_true hg29
      refine W_skip ?_
      refine thenE_n ?_
      refine W_seq ?_
      refine W_block ?_
      refine W_seq ?_
      refine W_region ?_
      have hlk : k < A.ends[v].length := by omega
      have hen := hkA.endOk hvlt hlk
      have hq1 := hen.1
      have hq2 : A.ends[v][k].1.toNat < C.length := by have := hen.2.1; omega
      refine WL_q rfl (ev_indexAddr Try.underlying69 sz71 rfl rfl (hr25.isSome (by omega)) (by omega) (by omega)) ?_
      refine WL_q rfl (ev_loads st71 sz71 rfl (hr25.cells (i := k) (by omega)) rfl) ?_
      refine WL_m rfl (ev_alloc zr71) ?_
      rintro _ w11 ⟨rfl, hN11⟩
      have hz11 := hN11.size
      replace hE := hE.trans hN11.ext
      replace hRL0 := hRL0.trans hN11.ext
      replace hRL2 := hRL2.trans hN11.ext
      replace hA := hA.ext hN11.ext
      replace hC := hC.ext hN11.ext
      replace hB3 := hB3.ext hN11.ext
      replace hB6 := hB6.ext hN11.ext
      replace hB7 := hB7.ext hN11.ext
      replace hBo := hBo.ext hN11.ext
      replace hBi := hBi.ext hN11.ext
      replace hOA := hOA.ext hN11.ext
      replace hr25 := hr25.ext hN11.ext
      replace hO := hO.ext hN11.ext
      have hB11 : Blk w11 _ _ [_, _] := hN11.blk
      refine WL_s (ev_stores sz71 rfl rfl rfl (by simp [Value.oneCell']) hB11 (by simp)) ?_
      rintro _ w8_3 hS8_3
      have hz8_3 := hS8_3.size
      replace hE := hE.sto hS8_3 (by omega)
      replace hRL0 := hRL0.sto hS8_3 (by omega)
      replace hRL2 := hRL2.sto hS8_3 (by omega)
      replace hA := hA.sto hS8_3 (by omega)
      replace hC := hC.sto hS8_3 (by omega)
      replace hB3 := hB3.sto hS8_3 (by omega)
      replace hB6 := hB6.sto hS8_3 (by omega)
      replace hB7 := hB7.sto hS8_3 (by omega)
      replace hBo := hBo.sto hS8_3 (by omega)
      replace hBi := hBi.sto hS8_3 (by omega)
      replace hOA := hOA.sto hS8_3 (by omega)
      replace hr25 := hr25.sto hS8_3 (by omega)
      replace hO := hO.sto hS8_3 (by omega)
      replace hB11 : Blk w8_3 _ _ [_, _] := hS8_3.blk
      refine WL_nil ?_
      refine thenE_n ?_
      refine W_drawR wL0.heap.size wL2.heap.size 0 0 (fun w' => True) [(0, true), (1, true), (2, true), (3, true), (4, true), (5, true), (6, true), (7, true), (8, true), (9, false), (10, false), (11, true)] mixed (by kernel_rfl) rfl (by kernel_rfl) (fun _ _ => trivial) ?_
      intro wd9 hEd9 hzd9
      replace hE := hE.trans hEd9
      replace hRL0 := hRL0.trans hEd9
      replace hRL2 := hRL2.trans hEd9
      replace hA := hA.ext hEd9
      replace hC := hC.ext hEd9
      replace hB3 := hB3.ext hEd9
      replace hB6 := hB6.ext hEd9
      replace hB7 := hB7.ext hEd9
      replace hBo := hBo.ext hEd9
      replace hBi := hBi.ext hEd9
      replace hOA := hOA.ext hEd9
      replace hr25 := hr25.ext hEd9
      replace hO := hO.ext hEd9
      replace hB11 := hB11.ext hEd9
      have hDd9 := (Rg.refl : Rg wL0.heap.size wL2.heap.size 0 0 wd9 wd9)
      refine PW_q rfl rfl (fun wq hq => ev_move rfl) ?_
      refine PW_q rfl rfl (fun wq hq => ev_move rfl) ?_
      refine PW_q rfl rfl (fun wq hq => ev_fieldAddr fo71_0 rfl) ?_
      refine PW_q rfl rfl (fun wq hq => ev_load one3 rfl ((hB11.rg hq.1 (by omega)).cell rfl)) ?_
      refine PW_q rfl rfl (fun wq hq => ev_indexAddr Try.underlying23 sz3 rfl rfl (hC.isSome (by omega)) (by omega) (by omega)) ?_
      refine PW_q rfl rfl (fun wq hq => ev_load one3 rfl ((hC.rg hq.1 (by omega)).cellJ (i := A.ends[v][k].1.toNat) (j := A.ends[v][k].1.toNat) (by omega) (by omega))) ?_
      refine PW_q rfl rfl (fun wq hq => ev_fieldAddr fo71_1 rfl) ?_
      refine PW_q rfl rfl (fun wq hq => ev_load one3 rfl ((hB11.rg hq.1 (by omega)).cell rfl)) ?_
      refine PW_q rfl rfl (fun wq hq => ev_build2 sn71_2 rfl rfl rfl rfl) ?_
      refine PW_m rfl rfl (ev_lit1 Try.underlying69 el71 (by decide) (by decide) rfl rfl) ?_
      rintro _ w41 ⟨rfl, hN41⟩
      have hz41 := hN41.size
      replace hE := hE.trans hN41.ext
      replace hRL0 := hRL0.trans hN41.ext
      replace hRL2 := hRL2.trans hN41.ext
      replace hDd9 := hDd9.trans hN41.ext
      replace hO := hO.ext hN41.ext
      have hB41 := hN41.blk
      refine ⟨⟨hDd9, trivial⟩, ?_⟩
      have hA_10 := hA.rg hDd9 (by omega)
      have hC_10 := hC.rg hDd9 (by omega)
      have hB3_10 := hB3.rg hDd9 (by omega)
      have hB6_10 := hB6.rg hDd9 (by omega)
      have hB7_10 := hB7.rg hDd9 (by omega)
      have hBo_10 := hBo.rg hDd9 (by omega)
      have hBi_10 := hBi.rg hDd9 (by omega)
      have hOA_10 := hOA.rg hDd9 (by omega)
      have hr25_10 := hr25.rg hDd9 (by omega)
      have hB11_10 := hB11.rg hDd9 (by omega)
      refine PW_m rfl rfl (ev_appendT Try.underlying69 el71 rfl (by decide) rfl rfl hO (SAt.of_blk (cs := [_, _]) (ds := []) hB41) rfl (by simp [Value.oneCell']) (by omega) (by unfold maxLen; omega) (by omega)) ?_
      rintro _ w42 ⟨a42, c42, rfl, hO42, hK42, hQ42⟩
      have hz42 := hK42.size
      replace hE := hE.rg hK42 (by omega)
      replace hRL0 := hRL0.rg hK42 (by omega)
      replace hRL2 := hRL2.rg hK42 (by omega)
      replace hDd9 := hDd9.rg hK42 (by omega)
      replace hB41 := hB41.rg hK42 (by omega)
      replace hO := hO42
      replace hO := ownt_snocP hO
      refine ⟨⟨hDd9, trivial⟩, ?_⟩
      refine PW_q rfl rfl (fun wq hq => ev_assign rfl) ?_
      replace hA := hA.rg hDd9 (by omega)
      replace hC := hC.rg hDd9 (by omega)
      replace hB3 := hB3.rg hDd9 (by omega)
      replace hB6 := hB6.rg hDd9 (by omega)
      replace hB7 := hB7.rg hDd9 (by omega)
      replace hBo := hBo.rg hDd9 (by omega)
      replace hBi := hBi.rg hDd9 (by omega)
      replace hOA := hOA.rg hDd9 (by omega)
      replace hr25 := hr25.rg hDd9 (by omega)
      replace hB11 := hB11.rg hDd9 (by omega)
      refine PW_nil ?_
      refine blockE_n ?_
      refine thenE_n ?_
      refine W_region ?_
      refine WL_q rfl (ev_add rfl rfl (by omega)) ?_
      refine WL_q rfl (ev_move rfl) ?_
      refine WL_nil ?_
      refine thenE_n ?_
      exact ⟨(k + 1, a42, c42), (Subs.c rfl (Subs.c rfl (Subs.c rfl (Subs.c rfl (Subs.c rfl (Subs.c rfl (Subs.c rfl Subs.n))))))), (Subs.c rfl (Subs.c (lkI rfl (by omega)) Subs.n)), ⟨hRL2, ⟨by omega, (ownt_toP hO (rowOf_take hvlt hlk hq2) rfl).up (Nat.le_refl _) (by omega)⟩⟩, by first | omega | (dsimp only; omega)⟩
    · have hp29 := of_decide_eq_false hg29
      refine W_exit ?_
      refine thenE_x ?_
      refine thenE_x ?_
      refine blockE_hit ?_
      refine thenE_n ?_
      refine W_seq ?_
      refine W_drawK (b13) (fun w' => True) [(0, true), (1, true), (2, true), (3, true), (4, true), (5, true), (6, true), (7, true), (8, false)] mixed (by kernel_rfl) rfl (by kernel_rfl) (fun _ _ => trivial) ?_
      intro wd11 hEd11 hzd11
      replace hE := hE.trans hEd11
      replace hRL0 := hRL0.trans hEd11
      replace hA := hA.ext hEd11
      replace hC := hC.ext hEd11
      replace hB3 := hB3.ext hEd11
      replace hB6 := hB6.ext hEd11
      replace hB7 := hB7.ext hEd11
      replace hBo := hBo.ext hEd11
      replace hBi := hBi.ext hEd11
      replace hOA := hOA.ext hEd11
      replace hr25 := hr25.ext hEd11
      replace hO := hO.ext hEd11
      have hk9 : k = (rowOf A C v).length := by omega
      subst hk9
      rw [List.take_length] at hO
      have hDd11 := KX.refl (b13) wd11
      refine PW_q rfl rfl (fun wq hq => ev_fieldAddr fo29_0 rfl) ?_
      refine PW_q rfl rfl (fun wq hq => ev_load one27 rfl ((hB7.kx hq.1 (by omega)).cell rfl)) ?_
      refine PW_q rfl rfl (fun wq hq => ev_move rfl) ?_
      refine PW_q rfl rfl (fun wq hq => ev_move rfl) ?_
      refine PW_q rfl rfl (fun wq hq => ev_indexAddr Try.underlying23 sz3 rfl rfl (hC.isSome (by omega)) (by omega) (by omega)) ?_
      refine PW_q rfl rfl (fun wq hq => ev_load one3 rfl ((hC.kx hq.1 (by omega)).cellJ (i := v) (j := Int.toNat ((v : Nat) : Int)) (by omega) (by omega))) ?_
      refine PW_q rfl rfl (fun wq hq => ev_move rfl) ?_
      refine PW_q rfl rfl (fun wq hq => ev_indexAddr Try.underlying27 sz69 rfl rfl rfl (by omega) (by omega)) ?_
      refine PW_s rfl (ev_store sz69 rfl rfl rfl hBo (by simp; omega)) ?_
      rintro _ w11_8 hS11_8
      have hz11_8 := hS11_8.size
      replace hE := hE.sto hS11_8 (by omega)
      replace hRL0 := hRL0.sto hS11_8 (by omega)
      replace hDd11 := hDd11.sto hS11_8 (by omega)
      replace hBo := hS11_8.blk
      have e9 := rowv_set (vs := vs) (xss := cqE A C K (v + 1)) (i := C[v].toNat) (j := 0 + Int.toNat C[v] * 1) (a' := a) (c' := c) (ys := rowOf A C v) (by omega)
      rw [e9, cqE_step hvC hc1] at hBo
      refine ⟨⟨hDd11, trivial⟩, ?_⟩
      replace hA := hA.kx hDd11 (by omega)
      replace hC := hC.kx hDd11 (by omega)
      replace hB3 := hB3.kx hDd11 (by omega)
      replace hB6 := hB6.kx hDd11 (by omega)
      replace hB7 := hB7.kx hDd11 (by omega)
      replace hBi := hBi.kx hDd11 (by omega)
      replace hOA := hOA.kx hDd11 (by omega)
      replace hr25 := hr25.kx hDd11 (by omega)
      replace hO := hO.kx hDd11 (by omega)
      refine PW_nil ?_
      refine thenE_n ?_
      refine W_drawK (d13) (fun w' => True) [(0, true), (1, true), (2, true), (3, true), (4, true), (5, true), (6, true), (7, true), (8, true), (9, true), (10, true), (11, true), (12, false)] mixed (by kernel_rfl) rfl (by kernel_rfl) (fun _ _ => trivial) ?_
      intro wd12 hEd12 hzd12
      replace hE := hE.trans hEd12
      replace hRL0 := hRL0.trans hEd12
      replace hA := hA.ext hEd12
      replace hC := hC.ext hEd12
      replace hB3 := hB3.ext hEd12
      replace hB6 := hB6.ext hEd12
      replace hB7 := hB7.ext hEd12
      replace hBi := hBi.ext hEd12
      replace hOA := hOA.ext hEd12
      replace hr25 := hr25.ext hEd12
      replace hO := hO.ext hEd12
      replace hBo := hBo.ext hEd12
      have hDd12 := KX.refl (d13) wd12
      refine PW_q rfl rfl (fun wq hq => ev_fieldAddr fo29_2 rfl) ?_
      refine PW_q rfl rfl (fun wq hq => ev_load one23 rfl ((hB7.kx hq.1 (by omega)).cell rfl)) ?_
      refine PW_q rfl rfl (fun wq hq => ev_move rfl) ?_
      refine PW_q rfl rfl (fun wq hq => ev_move rfl) ?_
      refine PW_q rfl rfl (fun wq hq => ev_indexAddr Try.underlying23 sz3 rfl rfl (hC.isSome (by omega)) (by omega) (by omega)) ?_
      refine PW_q rfl rfl (fun wq hq => ev_load one3 rfl ((hC.kx hq.1 (by omega)).cellJ (i := v) (j := Int.toNat ((v : Nat) : Int)) (by omega) (by omega))) ?_
      refine PW_q rfl rfl (fun wq hq => ev_fieldAddr fo29_2 rfl) ?_
      refine PW_q rfl rfl (fun wq hq => ev_load one23 rfl ((hB3.kx hq.1 (by omega)).cell rfl)) ?_
      refine PW_q rfl rfl (fun wq hq => ev_move rfl) ?_
      refine PW_q rfl rfl (fun wq hq => ev_indexAddr Try.underlying23 sz3 rfl rfl (hA.inputs.isSome (by omega)) (by omega) (by omega)) ?_
      refine PW_q rfl rfl (fun wq hq => ev_load one3 rfl ((hA.inputs.kx hq.1 (by omega)).cellJ (i := v) (j := Int.toNat ((v : Nat) : Int)) (by omega) (by omega))) ?_
      refine PW_q rfl rfl (fun wq hq => ev_indexAddr Try.underlying23 sz3 rfl rfl rfl (by omega) (by omega)) ?_
      refine PW_s rfl (ev_store sz3 rfl rfl rfl hBi (by simp; omega)) ?_
      rintro _ w12_12 hS12_12
      have hz12_12 := hS12_12.size
      replace hE := hE.sto hS12_12 (by omega)
      replace hRL0 := hRL0.sto hS12_12 (by omega)
      replace hDd12 := hDd12.sto hS12_12 (by omega)
      replace hBi := hS12_12.blk
      replace hBi := iset (i := C[v].toNat) (by omega) hBi
      rw [show A.inputs[v] = A.inputs.getD v 0 from (getD_eq (by omega)).symm, cqI_step hvC hc1] at hBi
      refine ⟨⟨hDd12, trivial⟩, ?_⟩
      replace hA := hA.kx hDd12 (by omega)
      replace hC := hC.kx hDd12 (by omega)
      replace hB3 := hB3.kx hDd12 (by omega)
      replace hB6 := hB6.kx hDd12 (by omega)
      replace hB7 := hB7.kx hDd12 (by omega)
      replace hOA := hOA.kx hDd12 (by omega)
      replace hr25 := hr25.kx hDd12 (by omega)
      replace hO := hO.kx hDd12 (by omega)
      replace hBo := hBo.kx hDd12 (by omega)
      refine PW_nil ?_
      refine blockE_n ?_
      refine thenE_n ?_
      refine W_region ?_
      refine WL_q rfl (ev_move rfl) ?_
      refine WL_q rfl (ev_sub rfl rfl (by omega)) ?_
      refine WL_q rfl (ev_assign rfl) ?_
      refine WL_nil ?_
      refine thenE_n ?_
      have hOA2 := hOA.put (i := C[v].toNat) (by omega) (a' := a) (c' := c) (ys := rowOf A C v) hO.1 (by omega) (by omega) (by omega)
      rw [cqE_step hvC hc1] at hOA2
      exact ⟨(v, vs.set C[v].toNat (a, c)), (Subs.c rfl (Subs.c rfl (Subs.c rfl (Subs.c rfl Subs.n)))), (Subs.c (lkI rfl (by omega)) Subs.n), ⟨hRL0, ⟨by omega, hBo, hBi, hOA2⟩⟩, by dsimp only; omega⟩
  · have hp19 := of_decide_eq_false hg19
    refine W_exit ?_
    refine thenE_x ?_
    refine thenE_x ?_
    refine blockE_hit ?_
    refine thenE_n ?_
    refine W_seq ?_
    refine W_region ?_
    refine WL_q rfl (ev_loads st29 sz29 rfl (cellsB hB7) rfl) ?_
    refine WL_s (ev_stores sz29 rfl rfl rfl (by simp [Value.oneCell']) hB6 (by simp)) ?_
    rintro _ w13_1 hS13_1
    have hz13_1 := hS13_1.size
    replace hE := hE.sto hS13_1 (by omega)
    replace hA := hA.sto hS13_1 (by omega)
    replace hC := hC.sto hS13_1 (by omega)
    replace hB3 := hB3.sto hS13_1 (by omega)
    replace hB7 := hB7.sto hS13_1 (by omega)
    replace hBo := hBo.sto hS13_1 (by omega)
    replace hBi := hBi.sto hS13_1 (by omega)
    replace hOA := hOA.sto hS13_1 (by omega)
    replace hB6 : Blk w13_1 _ _ [_, _, _] := hS13_1.blk
    refine WL_nil ?_
    refine thenE_n ?_
    refine W_ret ?_
    refine retc rfl rfl st29 sz29 (cellsB hB6) rfl ?_
    have hi0 : i = 0 := by omega
    subst hi0
    obtain ⟨e1, e2⟩ := cq_quo (A := A) hrC hne
    rw [e1] at hBo hOA
    rw [e2] at hBi
    exact ⟨⟨some ⟨b13, 0, none⟩, K, none, 0, some ⟨d13, 0, none⟩, K⟩, by simp [netV, quoK, qE_len, qI_len], net_blocks (hOA.prows.mono (by omega) (by omega)) hBo ⟨by omega, by omega⟩ hBi ⟨by omega, by omega⟩ rfl qE_len qI_len, hE⟩

theorem foldl_max_mem (r : List Int) : ∀ a : Int, r.foldl max a = a ∨ r.foldl max a ∈ r := by
  induction r with
  | nil => intro a; exact .inl rfl
  | cons x r ih =>
    intro a
    rw [List.foldl_cons]
    rcases ih (max a x) with h | h
    · rw [h]
      rcases Int.le_total a x with k | k
      · rw [Int.max_eq_right k]; exact .inr (List.mem_cons_self ..)
      · rw [Int.max_eq_left k]; exact .inl rfl
    · exact .inr (List.mem_cons_of_mem _ h)
theorem lmax_mem {xs : List Int} (h : 0 < xs.length) : lmax xs ∈ xs := by
  cases xs with
  | nil => simp at h
  | cons y r =>
    show r.foldl max y ∈ y :: r
    rcases foldl_max_mem r y with e | e
    · rw [e]; exact List.mem_cons_self ..
    · exact List.mem_cons_of_mem _ e
theorem mmax1_lmax {xs : List Int} (h0 : 0 < xs.length) (h : ∀ x ∈ xs, 0 ≤ x) : mmax1 xs = lmax xs + 1 := by
  have hm := lmax_mem h0
  have h1 := h _ hm
  unfold mmax1
  rw [mmax_eq ⟨_, List.mem_map_of_mem (f := (· + 1)) hm, by omega⟩]
  exact lmax_of (List.mem_map.2 ⟨_, hm, rfl⟩) fun x hx => by obtain ⟨y, hy, rfl⟩ := List.mem_map.1 hx; have := lmax_of_mem hy; omega
theorem RV_and {α : Type} {z x y : α} {V P : Prop} {q : Bool} (h : V) (k : RV z (opt P x) y q) : RV z (opt (V ∧ P) x) y q := by
  have e : opt (V ∧ P) x = opt P x := by
    unfold opt
    by_cases hp : P
    · rw [if_pos hp, if_pos ⟨h, hp⟩]
    · rw [if_neg hp, if_neg fun h9 => hp h9.2]
  rw [e]; exact k

set_option maxRecDepth 100000 in
theorem QuotientOf_spec {loA hiA : Nat} (nA : NA) (A : Net) {loC hiC : Nat} (aC : Option Addr) (cC : Nat) (C : List Int) (w : World) (hA : IsNet loA hiA w nA A) (hhiA : hiA ≤ w.heap.size) (hnA : totN A ≤ 1048576) (hC : Ints loC hiC w aC cC C) (hhiC : hiC ≤ w.heap.size) (hnC : C.length ≤ 1048576) :
    Fn Try.prog 13 #[netV nA A, .slice aC C.length cC] w (fun o9 w' => ∃ h' U q, o9 = .tuple #[netV h' U, VB q] ∧ RV (⟨[], [], []⟩ : Net) (opt (NOk A ∧ QV A C (lmax C + 1).toNat) (quoK A C (lmax C + 1).toNat)) U q ∧ OwnNet w.heap.size w'.heap.size w' 71 3 h' U ∧ totN U ≤ 1048576 ∧ Ext w w') := by
  have hqA := totL_len A.ends
  have hmA : totL A.ends + A.ids.length + A.inputs.length ≤ 1048576 := hnA
  have hE := Ext.refl w
  refine Fn_of Try.func13 rfl rfl (by kernel_rfl) rfl ?_
  refine W_seq ?_
  refine W_region ?_
  refine WL_m rfl (ev_box rfl) ?_
  rintro _ w2 ⟨rfl, hN2⟩
  have hz2 := hN2.size
  replace hE := hE.trans hN2.ext
  replace hA := hA.ext hN2.ext
  replace hC := hC.ext hN2.ext
  have hB2 : Blk w2 _ _ [_, _, _] := hN2.blk
  refine WL_m rfl (ev_alloc zr29) ?_
  rintro _ w4 ⟨rfl, hN4⟩
  have hz4 := hN4.size
  replace hE := hE.trans hN4.ext
  replace hA := hA.ext hN4.ext
  replace hC := hC.ext hN4.ext
  replace hB2 := hB2.ext hN4.ext
  have hB4 : Blk w4 _ _ [_, _, _] := hN4.blk
  refine WL_q rfl (ev_assign rfl) ?_
  refine WL_nil ?_
  refine thenE_n ?_
  refine W_seq ?_
  refine W_seq ?_
  refine W_region ?_
  refine WL_q rfl (ev_loads st29 sz29 rfl (cellsB hB2) rfl) ?_
  refine WL_m rfl (ev_call rfl (IsNetwork_spec _ A _ hA (by omega) (by omega))) ?_
  rintro _ w7 ⟨b7, rfl, hb7, hE7⟩
  have hz7 := hE7.size
  replace hE := hE.trans hE7
  replace hA := hA.ext hE7
  replace hC := hC.ext hE7
  replace hB2 := hB2.ext hE7
  replace hB4 := hB4.ext hE7
  refine WL_q rfl (ev_not rfl) ?_
  refine WL_nil ?_
  refine thenE_n ?_
  refine W_cond rfl (fun hg8 => ?_) (fun hg8 => ?_)
  · have hg7 := not_true hg8
    have hp7 := ttN hb7 hg7
    refine W_seq ?_
    refine W_region ?_
    refine WL_q rfl (ev_buildP0 sn29_3 zr29 ) ?_
    refine WL_s (ev_stores sz29 rfl rfl rfl (by simp [Value.oneCell']) hB4 (by simp)) ?_
    rintro _ w2_1 hS2_1
    have hz2_1 := hS2_1.size
    replace hE := hE.sto hS2_1 (by omega)
    replace hA := hA.sto hS2_1 (by omega)
    replace hC := hC.sto hS2_1 (by omega)
    replace hB2 := hB2.sto hS2_1 (by omega)
    replace hB4 : Blk w2_1 _ _ [_, _, _] := hS2_1.blk
    refine WL_q rfl (ev_assign rfl) ?_
    refine WL_nil ?_
    refine thenE_n ?_
    refine W_ret ?_
    refine thenE_r ?_
    refine retc2 rfl rfl st29 sz29 (cellsB hB4) rfl rfl ?_
    first | (exact ⟨⟨none, 0, none, 0, none, 0⟩, ⟨[], [], []⟩, _, rfl, .no (fun h => hp7 h.1), OwnNet.nil, by decide, hE⟩) | (exact ⟨_, _, _, rfl, RV_and hp7 hr12, hO12.up (by omega) (by omega), hl12, hE⟩)
  · have hg7 := not_false hg8
    have hp7 := hb7.1 hg7
    refine W_skip ?_
    refine thenE_n ?_
    refine W_seq ?_
    refine W_region ?_
    refine WL_q rfl (ev_loads st29 sz29 rfl (cellsB hB2) rfl) ?_
    refine WL_q rfl (ev_move rfl) ?_
    refine WL_m rfl (ev_call rfl (quotient_spec _ A _ _ C _ hA (by omega) (by omega) hC (by omega) (by omega) (by assumption))) ?_
    rintro _ w12 ⟨h12, U12, q12, rfl, hr12, hO12, hl12, hE12⟩
    have hz12 := hE12.size
    replace hE := hE.trans hE12
    replace hA := hA.ext hE12
    replace hC := hC.ext hE12
    replace hB2 := hB2.ext hE12
    replace hB4 := hB4.ext hE12
    refine WL_q rfl (ev_extract rfl rfl) ?_
    refine WL_q rfl (ev_extract rfl rfl) ?_
    refine WL_s (ev_stores sz29 rfl rfl rfl (by simp [Value.oneCell']) hB4 (by simp)) ?_
    rintro _ w3_5 hS3_5
    have hz3_5 := hS3_5.size
    replace hE := hE.sto hS3_5 (by omega)
    replace hA := hA.sto hS3_5 (by omega)
    replace hC := hC.sto hS3_5 (by omega)
    replace hB2 := hB2.sto hS3_5 (by omega)
    replace hO12 := hO12.sto hS3_5 (by omega)
    replace hB4 : Blk w3_5 _ _ [_, _, _] := hS3_5.blk
    refine WL_q rfl (ev_assign rfl) ?_
    refine WL_nil ?_
    refine thenE_n ?_
    refine W_ret ?_
    refine retc2 rfl rfl st29 sz29 (cellsB hB4) rfl rfl ?_
    first | (exact ⟨⟨none, 0, none, 0, none, 0⟩, ⟨[], [], []⟩, _, rfl, .no (fun h => hp7 h.1), OwnNet.nil, by decide, hE⟩) | (exact ⟨_, _, _, rfl, RV_and hp7 hr12, hO12.up (by omega) (by omega), hl12, hE⟩)

set_option maxHeartbeats 1000000 in
set_option maxRecDepth 100000 in
theorem sQuotientOf_spec {loA hiA : Nat} (nA : NA) (A : Net) {loC hiC : Nat} (aC : Option Addr) (cC : Nat) (C : List Int) (w : World) (hA : IsNet loA hiA w nA A) (hhiA : hiA ≤ w.heap.size) (hnA : totN A ≤ 1048576) (hC : Ints loC hiC w aC cC C) (hhiC : hiC ≤ w.heap.size) (hnC : C.length ≤ 1048576) :
    Fn Try.prog 10 #[netV nA A, .slice aC C.length cC] w (fun o9 w' => ∃ h' U q, o9 = .tuple #[netV h' U, VB q] ∧ RV (⟨[], [], []⟩ : Net) (opt (NOk A ∧ QV A C (lmax C + 1).toNat) (quoK A C (lmax C + 1).toNat)) U q ∧ IsNet 0 w'.heap.size w' h' U ∧ totN U ≤ 1048576 ∧ Ext w w') := by
  have hqA := totL_len A.ends
  have hmA : totL A.ends + A.ids.length + A.inputs.length ≤ 1048576 := hnA
  have hE := Ext.refl w
  refine Fn_of Try.func10 rfl rfl (by kernel_rfl) rfl ?_
  refine W_seq ?_
  refine W_region ?_
  refine WL_m rfl (ev_box rfl) ?_
  rintro _ w2 ⟨rfl, hN2⟩
  have hz2 := hN2.size
  replace hE := hE.trans hN2.ext
  replace hA := hA.ext hN2.ext
  replace hC := hC.ext hN2.ext
  have hB2 : Blk w2 _ _ [_, _, _] := hN2.blk
  refine WL_m rfl (ev_alloc zr29) ?_
  rintro _ w4 ⟨rfl, hN4⟩
  have hz4 := hN4.size
  replace hE := hE.trans hN4.ext
  replace hA := hA.ext hN4.ext
  replace hC := hC.ext hN4.ext
  replace hB2 := hB2.ext hN4.ext
  have hB4 : Blk w4 _ _ [_, _, _] := hN4.blk
  refine WL_q rfl (ev_assign rfl) ?_
  refine WL_nil ?_
  refine thenE_n ?_
  refine W_seq ?_
  refine W_seq ?_
  refine W_region ?_
  refine WL_q rfl (ev_loads st29 sz29 rfl (cellsB hB2) rfl) ?_
  refine WL_m rfl (ev_call rfl (neGood_spec _ A _ hA (by omega) (by omega))) ?_
  rintro _ w10 ⟨b10, rfl, hb10, hE10⟩
  have hz10 := hE10.size
  replace hE := hE.trans hE10
  replace hA := hA.ext hE10
  replace hC := hC.ext hE10
  replace hB2 := hB2.ext hE10
  replace hB4 := hB4.ext hE10
  refine WL_q rfl (ev_not rfl) ?_
  refine WL_q rfl (ev_move rfl) ?_
  refine WL_splitv (t := 12) rfl (fun hg11 => ?_) (fun hg11 => ?_)
  · have hg10 := not_true hg11
    have hp10 := ttN hb10 hg10
    refine WL_no rfl rfl hg11 rfl ?_
    refine WL_no rfl rfl hg11 rfl ?_
    refine WL_no rfl rfl hg11 rfl ?_
    refine WL_no rfl rfl hg11 rfl ?_
    refine WL_no rfl rfl hg11 rfl ?_
    refine WL_no rfl rfl hg11 rfl ?_
    refine WL_q rfl (ev_pick_t rfl hg11 rfl) ?_
    refine WL_q rfl (ev_move rfl) ?_
    refine WL_no rfl rfl rfl rfl ?_
    refine WL_no rfl rfl rfl rfl ?_
    refine WL_no rfl rfl rfl rfl ?_
    refine WL_no rfl rfl rfl rfl ?_
    refine WL_no rfl rfl rfl rfl ?_
    refine WL_no rfl rfl rfl rfl ?_
    refine WL_no rfl rfl rfl rfl ?_
    refine WL_q rfl (ev_pick_t rfl rfl rfl) ?_
    refine WL_nil ?_
    refine thenE_n ?_
    refine W_cond_t rfl ?_
    refine W_seq ?_
    refine W_region ?_
    refine WL_q rfl (ev_buildP0 sn29_3 zr29 ) ?_
    refine WL_s (ev_stores sz29 rfl rfl rfl (by simp [Value.oneCell']) hB4 (by simp)) ?_
    rintro _ w2_1 hS2_1
    have hz2_1 := hS2_1.size
    replace hE := hE.sto hS2_1 (by omega)
    replace hA := hA.sto hS2_1 (by omega)
    replace hC := hC.sto hS2_1 (by omega)
    replace hB2 := hB2.sto hS2_1 (by omega)
    replace hB4 : Blk w2_1 _ _ [_, _, _] := hS2_1.blk
    refine WL_q rfl (ev_assign rfl) ?_
    refine WL_nil ?_
    refine thenE_n ?_
    refine W_ret ?_
    refine thenE_r ?_
    refine retc2 rfl rfl st29 sz29 (cellsB hB4) rfl rfl ?_
    first | (exact ⟨⟨none, 0, none, 0, none, 0⟩, ⟨[], [], []⟩, _, rfl, .no (fun h => hp10 h.1), ⟨Nest.nil, Ints.nil, Ints.nil⟩, by decide, hE⟩) | (exact ⟨⟨none, 0, none, 0, none, 0⟩, ⟨[], [], []⟩, _, rfl, .no (fun h => hp18 h.2.1.1), ⟨Nest.nil, Ints.nil, Ints.nil⟩, by decide, hE⟩) | (exact ⟨⟨none, 0, none, 0, none, 0⟩, ⟨[], [], []⟩, _, rfl, .no (fun h => tf hg26 h.2.1.2), ⟨Nest.nil, Ints.nil, Ints.nil⟩, by decide, hE⟩) | (refine ⟨⟨none, 0, none, 0, none, 0⟩, ⟨[], [], []⟩, _, rfl, .no (fun h => ?_), ⟨Nest.nil, Ints.nil, Ints.nil⟩, by decide, hE⟩; simp only [Int.toNat_natCast] at h; exact hp39 ((hasC hrK (by omega)).2 (h.2.2.1 i (by omega)))) | (refine ⟨⟨none, 0, none, 0, none, 0⟩, ⟨[], [], []⟩, _, rfl, .no (fun h => ?_), ⟨Nest.nil, Ints.nil, Ints.nil⟩, by decide, hE⟩; simp only [Int.toNat_natCast] at h; exact hp49 ⟨hp10, h.2.2.2.1, h.2.2.2.2⟩) | (refine ⟨h45, quoK A C K, _, rfl, ?_, hN45.mono (by omega) (by omega), quo_tot hp10 (by omega), hE⟩; rw [Int.toNat_natCast]; exact .yes ⟨hp10, ⟨by omega, hg26⟩, hne, hp49.2.1, hp49.2.2⟩ rfl)
  · have hg10 := not_false hg11
    have hp10 := hb10.1 hg10
    refine WL_qg rfl rfl hg11 rfl (ev_move rfl) ?_
    refine WL_qg rfl rfl hg11 rfl (ev_len Try.underlying23 rfl) ?_
    refine WL_qg rfl rfl hg11 rfl (ev_fieldAddr fo29_0 rfl) ?_
    refine WL_qg rfl rfl hg11 rfl (ev_load one27 rfl (hB2.cell rfl)) ?_
    refine WL_qg rfl rfl hg11 rfl (ev_len Try.underlying27 rfl) ?_
    refine WL_qg rfl rfl hg11 rfl (ev_neq rfl rfl) ?_
    refine WL_q rfl (ev_pick_f rfl hg11 rfl) ?_
    refine WL_q rfl (ev_move rfl) ?_
    refine WL_splitv (t := 20) rfl (fun hg18 => ?_) (fun hg18 => ?_)
    · have hp18 := of_decide_eq_true hg18
      refine WL_no rfl rfl hg18 rfl ?_
      refine WL_no rfl rfl hg18 rfl ?_
      refine WL_no rfl rfl hg18 rfl ?_
      refine WL_no rfl rfl hg18 rfl ?_
      refine WL_no rfl rfl hg18 rfl ?_
      refine WL_no rfl rfl hg18 rfl ?_
      refine WL_no rfl rfl hg18 rfl ?_
      refine WL_q rfl (ev_pick_t rfl hg18 rfl) ?_
      refine WL_nil ?_
      refine thenE_n ?_
      refine W_cond_t rfl ?_
      refine W_seq ?_
      refine W_region ?_
      refine WL_q rfl (ev_buildP0 sn29_3 zr29 ) ?_
      refine WL_s (ev_stores sz29 rfl rfl rfl (by simp [Value.oneCell']) hB4 (by simp)) ?_
      rintro _ w2_1 hS2_1
      have hz2_1 := hS2_1.size
      replace hE := hE.sto hS2_1 (by omega)
      replace hA := hA.sto hS2_1 (by omega)
      replace hC := hC.sto hS2_1 (by omega)
      replace hB2 := hB2.sto hS2_1 (by omega)
      replace hB4 : Blk w2_1 _ _ [_, _, _] := hS2_1.blk
      refine WL_q rfl (ev_assign rfl) ?_
      refine WL_nil ?_
      refine thenE_n ?_
      refine W_ret ?_
      refine thenE_r ?_
      refine retc2 rfl rfl st29 sz29 (cellsB hB4) rfl rfl ?_
      first | (exact ⟨⟨none, 0, none, 0, none, 0⟩, ⟨[], [], []⟩, _, rfl, .no (fun h => hp10 h.1), ⟨Nest.nil, Ints.nil, Ints.nil⟩, by decide, hE⟩) | (exact ⟨⟨none, 0, none, 0, none, 0⟩, ⟨[], [], []⟩, _, rfl, .no (fun h => hp18 h.2.1.1), ⟨Nest.nil, Ints.nil, Ints.nil⟩, by decide, hE⟩) | (exact ⟨⟨none, 0, none, 0, none, 0⟩, ⟨[], [], []⟩, _, rfl, .no (fun h => tf hg26 h.2.1.2), ⟨Nest.nil, Ints.nil, Ints.nil⟩, by decide, hE⟩) | (refine ⟨⟨none, 0, none, 0, none, 0⟩, ⟨[], [], []⟩, _, rfl, .no (fun h => ?_), ⟨Nest.nil, Ints.nil, Ints.nil⟩, by decide, hE⟩; simp only [Int.toNat_natCast] at h; exact hp39 ((hasC hrK (by omega)).2 (h.2.2.1 i (by omega)))) | (refine ⟨⟨none, 0, none, 0, none, 0⟩, ⟨[], [], []⟩, _, rfl, .no (fun h => ?_), ⟨Nest.nil, Ints.nil, Ints.nil⟩, by decide, hE⟩; simp only [Int.toNat_natCast] at h; exact hp49 ⟨hp10, h.2.2.2.1, h.2.2.2.2⟩) | (refine ⟨h45, quoK A C K, _, rfl, ?_, hN45.mono (by omega) (by omega), quo_tot hp10 (by omega), hE⟩; rw [Int.toNat_natCast]; exact .yes ⟨hp10, ⟨by omega, hg26⟩, hne, hp49.2.1, hp49.2.2⟩ rfl)
    · have hp18 := of_decide_eq_false hg18
      refine WL_qg rfl rfl hg18 rfl (ev_move rfl) ?_
      refine WL_qg rfl rfl hg18 rfl (ev_fieldAddr fo29_0 rfl) ?_
      refine WL_qg rfl rfl hg18 rfl (ev_load one27 rfl (hB2.cell rfl)) ?_
      refine WL_qg rfl rfl hg18 rfl (ev_len Try.underlying27 rfl) ?_
      refine WL_qg rfl rfl hg18 rfl (ev_sub rfl rfl (by omega)) ?_
      refine WL_mg rfl rfl hg18 rfl (ev_call rfl (l1All_spec _ _ C _ _ _ hC (by omega))) ?_
      rintro _ w26 ⟨rfl, hE26⟩
      have hz26 := hE26.size
      replace hE := hE.trans hE26
      replace hA := hA.ext hE26
      replace hC := hC.ext hE26
      replace hB2 := hB2.ext hE26
      replace hB4 := hB4.ext hE26
      refine WL_qg rfl rfl hg18 rfl (ev_not rfl) ?_
      refine WL_q rfl (ev_pick_f rfl hg18 rfl) ?_
      refine WL_nil ?_
      refine thenE_n ?_
      refine W_cond rfl (fun hg27 => ?_) (fun hg27 => ?_)
      · have hg26 := not_true hg27
        refine W_seq ?_
        refine W_region ?_
        refine WL_q rfl (ev_buildP0 sn29_3 zr29 ) ?_
        refine WL_s (ev_stores sz29 rfl rfl rfl (by simp [Value.oneCell']) hB4 (by simp)) ?_
        rintro _ w2_1 hS2_1
        have hz2_1 := hS2_1.size
        replace hE := hE.sto hS2_1 (by omega)
        replace hA := hA.sto hS2_1 (by omega)
        replace hC := hC.sto hS2_1 (by omega)
        replace hB2 := hB2.sto hS2_1 (by omega)
        replace hB4 : Blk w2_1 _ _ [_, _, _] := hS2_1.blk
        refine WL_q rfl (ev_assign rfl) ?_
        refine WL_nil ?_
        refine thenE_n ?_
        refine W_ret ?_
        refine thenE_r ?_
        refine retc2 rfl rfl st29 sz29 (cellsB hB4) rfl rfl ?_
        first | (exact ⟨⟨none, 0, none, 0, none, 0⟩, ⟨[], [], []⟩, _, rfl, .no (fun h => hp10 h.1), ⟨Nest.nil, Ints.nil, Ints.nil⟩, by decide, hE⟩) | (exact ⟨⟨none, 0, none, 0, none, 0⟩, ⟨[], [], []⟩, _, rfl, .no (fun h => hp18 h.2.1.1), ⟨Nest.nil, Ints.nil, Ints.nil⟩, by decide, hE⟩) | (exact ⟨⟨none, 0, none, 0, none, 0⟩, ⟨[], [], []⟩, _, rfl, .no (fun h => tf hg26 h.2.1.2), ⟨Nest.nil, Ints.nil, Ints.nil⟩, by decide, hE⟩) | (refine ⟨⟨none, 0, none, 0, none, 0⟩, ⟨[], [], []⟩, _, rfl, .no (fun h => ?_), ⟨Nest.nil, Ints.nil, Ints.nil⟩, by decide, hE⟩; simp only [Int.toNat_natCast] at h; exact hp39 ((hasC hrK (by omega)).2 (h.2.2.1 i (by omega)))) | (refine ⟨⟨none, 0, none, 0, none, 0⟩, ⟨[], [], []⟩, _, rfl, .no (fun h => ?_), ⟨Nest.nil, Ints.nil, Ints.nil⟩, by decide, hE⟩; simp only [Int.toNat_natCast] at h; exact hp49 ⟨hp10, h.2.2.2.1, h.2.2.2.2⟩) | (refine ⟨h45, quoK A C K, _, rfl, ?_, hN45.mono (by omega) (by omega), quo_tot hp10 (by omega), hE⟩; rw [Int.toNat_natCast]; exact .yes ⟨hp10, ⟨by omega, hg26⟩, hne, hp49.2.1, hp49.2.2⟩ rfl)
      · have hg26 := not_false hg27
        refine W_skip ?_
        refine thenE_n ?_
        refine W_seq ?_
        refine W_region ?_
        refine WL_q rfl (ev_move rfl) ?_
        have hndA := hp10.nodes
        have hinA := hp10.inLen
        have hrC := allR_true.1 hg26
        have hC0 : 0 < C.length := by omega
        have hge := lmax_ge hC0 (fun x hx => (hrC x hx).1)
        have hle := lmax_le (m := 39) (by omega) (fun x hx => by have := hrC x hx; omega)
        refine WL_m rfl (ev_call rfl (viMany_spec _ _ C _ rfl hC (by omega) (fun x hx => by have := hrC x hx; omega))) ?_
        rintro _ w31 ⟨rfl, hE31⟩
        have hz31 := hE31.size
        replace hE := hE.trans hE31
        replace hA := hA.ext hE31
        replace hC := hC.ext hE31
        replace hB2 := hB2.ext hE31
        replace hB4 := hB4.ext hE31
        obtain ⟨K, hK⟩ : ∃ K : Nat, lmax C + 1 = (K : Int) := ⟨(lmax C + 1).toNat, by omega⟩
        rw [mmax1_lmax hC0 (fun x hx => (hrC x hx).1), hK]
        have hrK : ∀ x ∈ C, 0 ≤ x ∧ x.toNat < K := fun x hx => by have h1 := hrC x hx; have h2 := lmax_of_mem hx; exact ⟨h1.1, by omega⟩
        refine WL_q rfl (ev_assign rfl) ?_
        refine WL_nil ?_
        refine thenE_n ?_
        refine W_seq ?_
        refine W_seq ?_
        refine W_region ?_
        refine WL_q rfl (ev_assign rfl) ?_
        refine WL_nil ?_
        refine thenE_n ?_
        refine W_block ?_
        refine W_loopC (G := Nat) [(1, _), (2, _), (4, _), (6, _)] ((Subs.c rfl (Subs.c rfl (Subs.c rfl (Subs.c rfl Subs.n))))) (fun i => [(7, VI (i : Int))]) (fun i w' => Ext w31 w' ∧ i ≤ K ∧ ∀ c, c < i → ((c : Nat) : Int) ∈ C) (fun i => K - i) 0 ((Subs.c (lkI rfl (by omega)) Subs.n)) (⟨Ext.refl _, ⟨Nat.zero_le _, fun c hc => absurd hc (Nat.not_lt_zero _)⟩⟩) ?_
        rintro i wL0 ⟨hRL0, hi', hJ⟩
        have hzL0 := hRL0.size
        replace hE := hE.trans hRL0
        replace hA := hA.ext hRL0
        replace hC := hC.ext hRL0
        replace hB2 := hB2.ext hRL0
        replace hB4 := hB4.ext hRL0
        refine W_seq ?_
        refine W_seq ?_
        refine W_region ?_
        refine WL_q rfl (ev_move rfl) ?_
        refine WL_q rfl (ev_move rfl) ?_
        refine WL_q rfl (ev_lss rfl rfl) ?_
        refine WL_nil ?_
        refine thenE_n ?_
        refine W_cond rfl (fun hg34 => ?_) (fun hg34 => ?_)
        · have hp34 := of_decide_eq_true hg34
          refine W_skip ?_
          refine thenE_n ?_
          refine W_seq ?_
          refine W_block ?_
          refine W_seq ?_
          refine W_region ?_
          refine WL_q rfl (ev_move rfl) ?_
          refine WL_q rfl (ev_move rfl) ?_
          refine WL_m rfl (ev_call rfl (l1Has_spec _ _ C _ _ (by first | rfl | omega | simp) hC (by omega))) ?_
          rintro _ w39 ⟨b39, rfl, hb39, hE39⟩
          have hz39 := hE39.size
          replace hE := hE.trans hE39
          replace hRL0 := hRL0.trans hE39
          replace hA := hA.ext hE39
          replace hC := hC.ext hE39
          replace hB2 := hB2.ext hE39
          replace hB4 := hB4.ext hE39
          refine WL_q rfl (ev_not rfl) ?_
          refine WL_nil ?_
          refine thenE_n ?_
          refine W_cond rfl (fun hg40 => ?_) (fun hg40 => ?_)
          · have hg39 := not_true hg40
            have hp39 := ttN hb39 hg39
            refine W_seq ?_
            refine W_region ?_
            refine WL_q rfl (ev_buildP0 sn29_3 zr29 ) ?_
            refine WL_s (ev_stores sz29 rfl rfl rfl (by simp [Value.oneCell']) hB4 (by simp)) ?_
            rintro _ w8_1 hS8_1
            have hz8_1 := hS8_1.size
            replace hE := hE.sto hS8_1 (by omega)
            replace hA := hA.sto hS8_1 (by omega)
            replace hC := hC.sto hS8_1 (by omega)
            replace hB2 := hB2.sto hS8_1 (by omega)
            replace hB4 : Blk w8_1 _ _ [_, _, _] := hS8_1.blk
            refine WL_q rfl (ev_assign rfl) ?_
            refine WL_nil ?_
            refine thenE_n ?_
            refine W_ret ?_
            refine blockE_r ?_
            refine thenE_r ?_
            refine thenE_r ?_
            refine blockE_r ?_
            refine thenE_r ?_
            refine retc2 rfl rfl st29 sz29 (cellsB hB4) rfl rfl ?_
            first | (exact ⟨⟨none, 0, none, 0, none, 0⟩, ⟨[], [], []⟩, _, rfl, .no (fun h => hp10 h.1), ⟨Nest.nil, Ints.nil, Ints.nil⟩, by decide, hE⟩) | (exact ⟨⟨none, 0, none, 0, none, 0⟩, ⟨[], [], []⟩, _, rfl, .no (fun h => hp18 h.2.1.1), ⟨Nest.nil, Ints.nil, Ints.nil⟩, by decide, hE⟩) | (exact ⟨⟨none, 0, none, 0, none, 0⟩, ⟨[], [], []⟩, _, rfl, .no (fun h => tf hg26 h.2.1.2), ⟨Nest.nil, Ints.nil, Ints.nil⟩, by decide, hE⟩) | (refine ⟨⟨none, 0, none, 0, none, 0⟩, ⟨[], [], []⟩, _, rfl, .no (fun h => ?_), ⟨Nest.nil, Ints.nil, Ints.nil⟩, by decide, hE⟩; simp only [Int.toNat_natCast] at h; exact hp39 ((hasC hrK (by omega)).2 (h.2.2.1 i (by omega)))) | (refine ⟨⟨none, 0, none, 0, none, 0⟩, ⟨[], [], []⟩, _, rfl, .no (fun h => ?_), ⟨Nest.nil, Ints.nil, Ints.nil⟩, by decide, hE⟩; simp only [Int.toNat_natCast] at h; exact hp49 ⟨hp10, h.2.2.2.1, h.2.2.2.2⟩) | (refine ⟨h45, quoK A C K, _, rfl, ?_, hN45.mono (by omega) (by omega), quo_tot hp10 (by omega), hE⟩; rw [Int.toNat_natCast]; exact .yes ⟨hp10, ⟨by omega, hg26⟩, hne, hp49.2.1, hp49.2.2⟩ rfl)
          · have hg39 := not_false hg40
            have hp39 := hb39.1 hg39
            refine W_skip ?_
            refine blockE_n ?_
            refine thenE_n ?_
            refine W_region ?_
            refine WL_q rfl (ev_move rfl) ?_
            refine WL_q rfl (ev_add rfl rfl (by omega)) ?_
            refine WL_q rfl (ev_assign rfl) ?_
            refine WL_nil ?_
            refine thenE_n ?_
            exact ⟨i + 1, (Subs.c rfl (Subs.c rfl (Subs.c rfl (Subs.c rfl Subs.n)))), (Subs.c (lkI rfl (by omega)) Subs.n), ⟨hRL0, ⟨by omega, fun c hc => by
  by_cases e : c = i
  · subst e; exact hp39
  · exact hJ c (by omega)⟩⟩, by first | omega | (dsimp only; omega)⟩
        · have hp34 := of_decide_eq_false hg34
          refine W_exit ?_
          refine thenE_x ?_
          refine thenE_x ?_
          refine blockE_hit ?_
          refine thenE_n ?_
          refine W_seq ?_
          refine W_region ?_
          refine WL_q rfl (ev_loads st29 sz29 rfl (cellsB hB2) rfl) ?_
          refine WL_q rfl (ev_move rfl) ?_
          refine WL_q rfl (ev_move rfl) ?_
          have hne : ∀ c, c < K → 0 < ((fibs C K).getD c []).length := fun c hc => (hasC hrK hc).1 (hJ c (by omega))
          refine WL_m rfl (ev_call rfl (coQuotient_spec _ A _ _ C K _ hA (by omega) (by omega) hC (by omega) (by omega) hp10 (by omega) hrK (by omega) hne)) ?_
          rintro _ w45 ⟨h45, rfl, hN45, hE45⟩
          have hz45 := hE45.size
          replace hE := hE.trans hE45
          replace hA := hA.ext hE45
          replace hC := hC.ext hE45
          replace hB2 := hB2.ext hE45
          replace hB4 := hB4.ext hE45
          refine WL_m rfl (ev_alloc zr29) ?_
          rintro _ w8 ⟨rfl, hN8⟩
          have hz8 := hN8.size
          replace hE := hE.trans hN8.ext
          replace hA := hA.ext hN8.ext
          replace hC := hC.ext hN8.ext
          replace hB2 := hB2.ext hN8.ext
          replace hB4 := hB4.ext hN8.ext
          replace hN45 := hN45.ext hN8.ext
          have hB8 : Blk w8 _ _ [_, _, _] := hN8.blk
          refine WL_s (ev_stores sz29 rfl rfl rfl (by simp [Value.oneCell']) hB8 (by simp)) ?_
          rintro _ w9_5 hS9_5
          have hz9_5 := hS9_5.size
          replace hE := hE.sto hS9_5 (by omega)
          replace hA := hA.sto hS9_5 (by omega)
          replace hC := hC.sto hS9_5 (by omega)
          replace hB2 := hB2.sto hS9_5 (by omega)
          replace hB4 := hB4.sto hS9_5 (by omega)
          replace hN45 := hN45.sto hS9_5 (by omega)
          replace hB8 : Blk w9_5 _ _ [_, _, _] := hS9_5.blk
          refine WL_nil ?_
          refine thenE_n ?_
          refine W_seq ?_
          refine W_seq ?_
          refine W_region ?_
          refine WL_q rfl (ev_loads st29 sz29 rfl (cellsB hB2) rfl) ?_
          refine WL_q rfl (ev_loads st29 sz29 rfl (cellsB hB8) rfl) ?_
          refine WL_q rfl (ev_move rfl) ?_
          refine WL_m rfl (ev_call rfl (coAsked_spec _ h45 A (quoK A C K) _ _ C _ hA hN45 hC (by omega) (by omega) (by omega) (by omega) (quo_tot hp10 (by omega)) (by omega))) ?_
          rintro _ w49 ⟨b49, rfl, hb49, hE49⟩
          have hz49 := hE49.size
          replace hE := hE.trans hE49
          replace hA := hA.ext hE49
          replace hC := hC.ext hE49
          replace hB2 := hB2.ext hE49
          replace hB4 := hB4.ext hE49
          replace hN45 := hN45.ext hE49
          replace hB8 := hB8.ext hE49
          refine WL_q rfl (ev_not rfl) ?_
          refine WL_nil ?_
          refine thenE_n ?_
          refine W_cond rfl (fun hg50 => ?_) (fun hg50 => ?_)
          · have hg49 := not_true hg50
            have hp49 := ttN hb49 hg49
            refine W_seq ?_
            refine W_region ?_
            refine WL_q rfl (ev_buildP0 sn29_3 zr29 ) ?_
            refine WL_s (ev_stores sz29 rfl rfl rfl (by simp [Value.oneCell']) hB4 (by simp)) ?_
            rintro _ w11_1 hS11_1
            have hz11_1 := hS11_1.size
            replace hE := hE.sto hS11_1 (by omega)
            replace hA := hA.sto hS11_1 (by omega)
            replace hC := hC.sto hS11_1 (by omega)
            replace hB2 := hB2.sto hS11_1 (by omega)
            replace hN45 := hN45.sto hS11_1 (by omega)
            replace hB8 := hB8.sto hS11_1 (by omega)
            replace hB4 : Blk w11_1 _ _ [_, _, _] := hS11_1.blk
            refine WL_q rfl (ev_assign rfl) ?_
            refine WL_nil ?_
            refine thenE_n ?_
            refine W_ret ?_
            refine thenE_r ?_
            refine retc2 rfl rfl st29 sz29 (cellsB hB4) rfl rfl ?_
            first | (exact ⟨⟨none, 0, none, 0, none, 0⟩, ⟨[], [], []⟩, _, rfl, .no (fun h => hp10 h.1), ⟨Nest.nil, Ints.nil, Ints.nil⟩, by decide, hE⟩) | (exact ⟨⟨none, 0, none, 0, none, 0⟩, ⟨[], [], []⟩, _, rfl, .no (fun h => hp18 h.2.1.1), ⟨Nest.nil, Ints.nil, Ints.nil⟩, by decide, hE⟩) | (exact ⟨⟨none, 0, none, 0, none, 0⟩, ⟨[], [], []⟩, _, rfl, .no (fun h => tf hg26 h.2.1.2), ⟨Nest.nil, Ints.nil, Ints.nil⟩, by decide, hE⟩) | (refine ⟨⟨none, 0, none, 0, none, 0⟩, ⟨[], [], []⟩, _, rfl, .no (fun h => ?_), ⟨Nest.nil, Ints.nil, Ints.nil⟩, by decide, hE⟩; simp only [Int.toNat_natCast] at h; exact hp39 ((hasC hrK (by omega)).2 (h.2.2.1 i (by omega)))) | (refine ⟨⟨none, 0, none, 0, none, 0⟩, ⟨[], [], []⟩, _, rfl, .no (fun h => ?_), ⟨Nest.nil, Ints.nil, Ints.nil⟩, by decide, hE⟩; simp only [Int.toNat_natCast] at h; exact hp49 ⟨hp10, h.2.2.2.1, h.2.2.2.2⟩) | (refine ⟨h45, quoK A C K, _, rfl, ?_, hN45.mono (by omega) (by omega), quo_tot hp10 (by omega), hE⟩; rw [Int.toNat_natCast]; exact .yes ⟨hp10, ⟨by omega, hg26⟩, hne, hp49.2.1, hp49.2.2⟩ rfl)
          · have hg49 := not_false hg50
            have hp49 := hb49.1 hg49
            refine W_skip ?_
            refine thenE_n ?_
            refine W_seq ?_
            refine W_region ?_
            refine WL_q rfl (ev_loads st29 sz29 rfl (cellsB hB8) rfl) ?_
            refine WL_s (ev_stores sz29 rfl rfl rfl (by simp [Value.oneCell']) hB4 (by simp)) ?_
            rintro _ w12_1 hS12_1
            have hz12_1 := hS12_1.size
            replace hE := hE.sto hS12_1 (by omega)
            replace hA := hA.sto hS12_1 (by omega)
            replace hC := hC.sto hS12_1 (by omega)
            replace hB2 := hB2.sto hS12_1 (by omega)
            replace hN45 := hN45.sto hS12_1 (by omega)
            replace hB8 := hB8.sto hS12_1 (by omega)
            replace hB4 : Blk w12_1 _ _ [_, _, _] := hS12_1.blk
            refine WL_q rfl (ev_assign rfl) ?_
            refine WL_nil ?_
            refine thenE_n ?_
            refine W_ret ?_
            refine retc2 rfl rfl st29 sz29 (cellsB hB4) rfl rfl ?_
            first | (exact ⟨⟨none, 0, none, 0, none, 0⟩, ⟨[], [], []⟩, _, rfl, .no (fun h => hp10 h.1), ⟨Nest.nil, Ints.nil, Ints.nil⟩, by decide, hE⟩) | (exact ⟨⟨none, 0, none, 0, none, 0⟩, ⟨[], [], []⟩, _, rfl, .no (fun h => hp18 h.2.1.1), ⟨Nest.nil, Ints.nil, Ints.nil⟩, by decide, hE⟩) | (exact ⟨⟨none, 0, none, 0, none, 0⟩, ⟨[], [], []⟩, _, rfl, .no (fun h => tf hg26 h.2.1.2), ⟨Nest.nil, Ints.nil, Ints.nil⟩, by decide, hE⟩) | (refine ⟨⟨none, 0, none, 0, none, 0⟩, ⟨[], [], []⟩, _, rfl, .no (fun h => ?_), ⟨Nest.nil, Ints.nil, Ints.nil⟩, by decide, hE⟩; simp only [Int.toNat_natCast] at h; exact hp39 ((hasC hrK (by omega)).2 (h.2.2.1 i (by omega)))) | (refine ⟨⟨none, 0, none, 0, none, 0⟩, ⟨[], [], []⟩, _, rfl, .no (fun h => ?_), ⟨Nest.nil, Ints.nil, Ints.nil⟩, by decide, hE⟩; simp only [Int.toNat_natCast] at h; exact hp49 ⟨hp10, h.2.2.2.1, h.2.2.2.2⟩) | (refine ⟨h45, quoK A C K, _, rfl, ?_, hN45.mono (by omega) (by omega), quo_tot hp10 (by omega), hE⟩; rw [Int.toNat_natCast]; exact .yes ⟨hp10, ⟨by omega, hg26⟩, hne, hp49.2.1, hp49.2.2⟩ rfl)

set_option maxHeartbeats 1000000 in
set_option maxRecDepth 100000 in
theorem law_QuotientOf (nA : NA) (A : Net) (aC : Option Addr) (cC : Nat) (C : List Int) (w : World) (hA : IsNet 0 w.heap.size w nA A) (hsA : SmN A) (hC : Ints 0 w.heap.size w aC cC C) :
    Fn Try.prog 3 #[netV nA A, .slice aC C.length cC] w (fun v w' => v = VB true ∧ Ext w w') := by
  have hE := Ext.refl w
  refine Fn_of Try.func3 rfl rfl (by kernel_rfl) rfl ?_
  refine W_seq ?_
  refine W_region ?_
  refine WL_m rfl (ev_box rfl) ?_
  rintro _ w2 ⟨rfl, hN2⟩
  have hz2 := hN2.size
  replace hE := hE.trans hN2.ext
  replace hA := hA.ext hN2.ext
  replace hC := hC.ext hN2.ext
  have hB2 : Blk w2 _ _ [_, _, _] := hN2.blk
  refine WL_q rfl (ev_assign rfl) ?_
  refine WL_nil ?_
  refine thenE_n ?_
  refine W_seq ?_
  refine W_seq ?_
  refine W_region ?_
  refine WL_q rfl (ev_move rfl) ?_
  refine WL_q rfl (ev_len Try.underlying23 rfl) ?_
  refine WL_q rfl (ev_gtr rfl rfl) ?_
  refine WL_nil ?_
  refine thenE_n ?_
  refine W_cond rfl (fun hg19 => ?_) (fun hg19 => ?_)
  · have hp19 := of_decide_eq_true hg19
    refine W_seq ?_
    refine W_region ?_
    refine WL_q rfl (ev_assign rfl) ?_
    refine WL_nil ?_
    refine thenE_n ?_
    refine W_ret ?_
    refine thenE_r ?_
    refine ret1 rfl rfl ?_
    first | (exact ⟨rfl, hE⟩) | (exact (tfX hg19).elim) | (exact (decF hg19).elim) | (exfalso; omega)
  · have hp19 := of_decide_eq_false hg19
    refine W_skip ?_
    refine thenE_n ?_
    refine W_seq ?_
    refine W_region ?_
    refine WL_q rfl (ev_assign rfl) ?_
    refine WL_nil ?_
    refine thenE_n ?_
    refine W_seq ?_
    refine W_region ?_
    refine WL_q rfl (ev_loads st25 sz25 rfl (cellsB hB2) rfl) ?_
    refine WL_q rfl (ev_move rfl) ?_
    refine WL_m rfl (ev_call rfl (szNetwork_spec _ A _ _ hA (by omega) hsA)) ?_
    rintro _ w22 ⟨r22, rfl, hE22, hr22⟩
    have hz22 := hE22.size
    replace hE := hE.trans hE22
    replace hA := hA.ext hE22
    replace hC := hC.ext hE22
    replace hB2 := hB2.ext hE22
    refine WL_q rfl (ev_assign rfl) ?_
    refine WL_nil ?_
    refine thenE_n ?_
    refine W_seq ?_
    refine W_seq ?_
    refine W_region ?_
    refine WL_q rfl (ev_move rfl) ?_
    refine WL_q rfl (ev_lss rfl rfl) ?_
    refine WL_nil ?_
    refine thenE_n ?_
    refine W_cond rfl (fun hg24 => ?_) (fun hg24 => ?_)
    · have hp24 := of_decide_eq_true hg24
      refine W_seq ?_
      refine W_region ?_
      refine WL_q rfl (ev_assign rfl) ?_
      refine WL_nil ?_
      refine thenE_n ?_
      refine W_ret ?_
      refine thenE_r ?_
      refine ret1 rfl rfl ?_
      first | (exact ⟨rfl, hE⟩) | (exact (tfX hg24).elim) | (exact (decF hg24).elim) | (exfalso; omega)
    · have hp24 := of_decide_eq_false hg24
      refine W_skip ?_
      refine thenE_n ?_
      refine W_seq ?_
      refine W_region ?_
      refine WL_q rfl (ev_loads st25 sz25 rfl (cellsB hB2) rfl) ?_
      refine WL_m rfl (ev_call rfl (toNetwork_spec _ A _ hA (by omega) (by omega))) ?_
      rintro _ w27 ⟨h27, rfl, hF27, hE27⟩
      have hz27 := hE27.size
      replace hE := hE.trans hE27
      replace hA := hA.ext hE27
      replace hC := hC.ext hE27
      replace hB2 := hB2.ext hE27
      have hN27 := hF27.is
      refine WL_q rfl (ev_move rfl) ?_
      refine WL_m rfl (ev_call rfl (toIntS_spec _ _ C _ hC (by omega) (by omega))) ?_
      rintro _ w29 ⟨a29, rfl, hF29, hE29⟩
      have hz29 := hE29.size
      replace hE := hE.trans hE29
      replace hA := hA.ext hE29
      replace hC := hC.ext hE29
      replace hB2 := hB2.ext hE29
      replace hF27 := hF27.ext hE29
      replace hN27 := hN27.ext hE29
      have hI29 := hF29.is
      refine WL_m rfl (ev_call rfl (sQuotientOf_spec _ A _ _ C _ hN27 (by omega) (by omega) hI29 (by omega) (by omega))) ?_
      rintro _ w30 ⟨h30, U30, q30, rfl, hr30, hN30, hl30, hE30⟩
      have hz30 := hE30.size
      replace hE := hE.trans hE30
      replace hA := hA.ext hE30
      replace hC := hC.ext hE30
      replace hB2 := hB2.ext hE30
      replace hF27 := hF27.ext hE30
      replace hN27 := hN27.ext hE30
      replace hF29 := hF29.ext hE30
      replace hI29 := hI29.ext hE30
      refine WL_q rfl (ev_move rfl) ?_
      refine WL_q rfl (ev_extract rfl rfl) ?_
      refine WL_q rfl (ev_extract rfl rfl) ?_
      refine WL_m rfl (ev_alloc zr29) ?_
      rintro _ w6 ⟨rfl, hN6⟩
      have hz6 := hN6.size
      replace hE := hE.trans hN6.ext
      replace hA := hA.ext hN6.ext
      replace hC := hC.ext hN6.ext
      replace hB2 := hB2.ext hN6.ext
      replace hF27 := hF27.ext hN6.ext
      replace hN27 := hN27.ext hN6.ext
      replace hF29 := hF29.ext hN6.ext
      replace hI29 := hI29.ext hN6.ext
      replace hN30 := hN30.ext hN6.ext
      have hB6 : Blk w6 _ _ [_, _, _] := hN6.blk
      refine WL_s (ev_stores sz29 rfl rfl rfl (by simp [Value.oneCell']) hB6 (by simp)) ?_
      rintro _ w7_9 hS7_9
      have hz7_9 := hS7_9.size
      replace hE := hE.sto hS7_9 (by omega)
      replace hA := hA.sto hS7_9 (by omega)
      replace hC := hC.sto hS7_9 (by omega)
      replace hB2 := hB2.sto hS7_9 (by omega)
      replace hF27 := hF27.sto hS7_9 (by omega)
      replace hN27 := hN27.sto hS7_9 (by omega)
      replace hF29 := hF29.sto hS7_9 (by omega)
      replace hI29 := hI29.sto hS7_9 (by omega)
      replace hN30 := hN30.sto hS7_9 (by omega)
      replace hB6 : Blk w7_9 _ _ [_, _, _] := hS7_9.blk
      refine WL_q rfl (ev_assign rfl) ?_
      refine WL_nil ?_
      refine thenE_n ?_
      refine W_seq ?_
      refine W_region ?_
      refine WL_q rfl (ev_loads st25 sz25 rfl (cellsB hB2) rfl) ?_
      refine WL_m rfl (ev_call rfl (toNetwork_spec _ A _ hA (by omega) (by omega))) ?_
      rintro _ w34 ⟨h34, rfl, hF34, hE34⟩
      have hz34 := hE34.size
      replace hE := hE.trans hE34
      replace hA := hA.ext hE34
      replace hC := hC.ext hE34
      replace hB2 := hB2.ext hE34
      replace hF27 := hF27.ext hE34
      replace hN27 := hN27.ext hE34
      replace hF29 := hF29.ext hE34
      replace hI29 := hI29.ext hE34
      replace hN30 := hN30.ext hE34
      replace hB6 := hB6.ext hE34
      have hN34 := hF34.is
      refine WL_m rfl (ev_alloc zr29) ?_
      rintro _ w8 ⟨rfl, hN8⟩
      have hz8 := hN8.size
      replace hE := hE.trans hN8.ext
      replace hA := hA.ext hN8.ext
      replace hC := hC.ext hN8.ext
      replace hB2 := hB2.ext hN8.ext
      replace hF27 := hF27.ext hN8.ext
      replace hN27 := hN27.ext hN8.ext
      replace hF29 := hF29.ext hN8.ext
      replace hI29 := hI29.ext hN8.ext
      replace hN30 := hN30.ext hN8.ext
      replace hB6 := hB6.ext hN8.ext
      replace hF34 := hF34.ext hN8.ext
      replace hN34 := hN34.ext hN8.ext
      have hB8 : Blk w8 _ _ [_, _, _] := hN8.blk
      refine WL_s (ev_stores sz29 rfl rfl rfl (by simp [Value.oneCell']) hB8 (by simp)) ?_
      rintro _ w8_3 hS8_3
      have hz8_3 := hS8_3.size
      replace hE := hE.sto hS8_3 (by omega)
      replace hA := hA.sto hS8_3 (by omega)
      replace hC := hC.sto hS8_3 (by omega)
      replace hB2 := hB2.sto hS8_3 (by omega)
      replace hF27 := hF27.sto hS8_3 (by omega)
      replace hN27 := hN27.sto hS8_3 (by omega)
      replace hF29 := hF29.sto hS8_3 (by omega)
      replace hI29 := hI29.sto hS8_3 (by omega)
      replace hN30 := hN30.sto hS8_3 (by omega)
      replace hB6 := hB6.sto hS8_3 (by omega)
      replace hF34 := hF34.sto hS8_3 (by omega)
      replace hN34 := hN34.sto hS8_3 (by omega)
      replace hB8 : Blk w8_3 _ _ [_, _, _] := hS8_3.blk
      refine WL_nil ?_
      refine thenE_n ?_
      refine W_seq ?_
      refine W_region ?_
      refine WL_q rfl (ev_move rfl) ?_
      refine WL_m rfl (ev_call rfl (toIntS_spec _ _ C _ hC (by omega) (by omega))) ?_
      rintro _ w36 ⟨a36, rfl, hF36, hE36⟩
      have hz36 := hE36.size
      replace hE := hE.trans hE36
      replace hA := hA.ext hE36
      replace hC := hC.ext hE36
      replace hB2 := hB2.ext hE36
      replace hF27 := hF27.ext hE36
      replace hN27 := hN27.ext hE36
      replace hF29 := hF29.ext hE36
      replace hI29 := hI29.ext hE36
      replace hN30 := hN30.ext hE36
      replace hB6 := hB6.ext hE36
      replace hF34 := hF34.ext hE36
      replace hN34 := hN34.ext hE36
      replace hB8 := hB8.ext hE36
      have hI36 := hF36.is
      refine WL_q rfl (ev_assign rfl) ?_
      refine WL_nil ?_
      refine thenE_n ?_
      refine W_seq ?_
      refine W_region ?_
      refine WL_q rfl (ev_loads st29 sz29 rfl (cellsB hB8) rfl) ?_
      refine WL_q rfl (ev_move rfl) ?_
      refine WL_m rfl (ev_call rfl (QuotientOf_spec _ A _ _ C _ hN34 (by omega) (by omega) hI36 (by omega) (by omega))) ?_
      rintro _ w40 ⟨h40, U40, q40, rfl, hr40, hO40, hl40, hE40⟩
      have hz40 := hE40.size
      replace hE := hE.trans hE40
      replace hA := hA.ext hE40
      replace hC := hC.ext hE40
      replace hB2 := hB2.ext hE40
      replace hF27 := hF27.ext hE40
      replace hN27 := hN27.ext hE40
      replace hF29 := hF29.ext hE40
      replace hI29 := hI29.ext hE40
      replace hN30 := hN30.ext hE40
      replace hB6 := hB6.ext hE40
      replace hF34 := hF34.ext hE40
      replace hN34 := hN34.ext hE40
      replace hB8 := hB8.ext hE40
      replace hF36 := hF36.ext hE40
      replace hI36 := hI36.ext hE40
      refine WL_q rfl (ev_move rfl) ?_
      refine WL_q rfl (ev_extract rfl rfl) ?_
      refine WL_q rfl (ev_extract rfl rfl) ?_
      refine WL_m rfl (ev_alloc zr29) ?_
      rintro _ w10 ⟨rfl, hN10⟩
      have hz10 := hN10.size
      replace hE := hE.trans hN10.ext
      replace hA := hA.ext hN10.ext
      replace hC := hC.ext hN10.ext
      replace hB2 := hB2.ext hN10.ext
      replace hF27 := hF27.ext hN10.ext
      replace hN27 := hN27.ext hN10.ext
      replace hF29 := hF29.ext hN10.ext
      replace hI29 := hI29.ext hN10.ext
      replace hN30 := hN30.ext hN10.ext
      replace hB6 := hB6.ext hN10.ext
      replace hF34 := hF34.ext hN10.ext
      replace hN34 := hN34.ext hN10.ext
      replace hB8 := hB8.ext hN10.ext
      replace hF36 := hF36.ext hN10.ext
      replace hI36 := hI36.ext hN10.ext
      replace hO40 := hO40.ext hN10.ext
      have hB10 : Blk w10 _ _ [_, _, _] := hN10.blk
      refine WL_s (ev_stores sz29 rfl rfl rfl (by simp [Value.oneCell']) hB10 (by simp)) ?_
      rintro _ w10_7 hS10_7
      have hz10_7 := hS10_7.size
      replace hE := hE.sto hS10_7 (by omega)
      replace hA := hA.sto hS10_7 (by omega)
      replace hC := hC.sto hS10_7 (by omega)
      replace hB2 := hB2.sto hS10_7 (by omega)
      replace hF27 := hF27.sto hS10_7 (by omega)
      replace hN27 := hN27.sto hS10_7 (by omega)
      replace hF29 := hF29.sto hS10_7 (by omega)
      replace hI29 := hI29.sto hS10_7 (by omega)
      replace hN30 := hN30.sto hS10_7 (by omega)
      replace hB6 := hB6.sto hS10_7 (by omega)
      replace hF34 := hF34.sto hS10_7 (by omega)
      replace hN34 := hN34.sto hS10_7 (by omega)
      replace hB8 := hB8.sto hS10_7 (by omega)
      replace hF36 := hF36.sto hS10_7 (by omega)
      replace hI36 := hI36.sto hS10_7 (by omega)
      replace hO40 := hO40.sto hS10_7 (by omega)
      replace hB10 : Blk w10_7 _ _ [_, _, _] := hS10_7.blk
      refine WL_q rfl (ev_assign rfl) ?_
      refine WL_nil ?_
      refine thenE_n ?_
      refine W_seq ?_
      refine W_seq ?_
      refine W_region ?_
      refine WL_q rfl (ev_loads st29 sz29 rfl (cellsB hB10) rfl) ?_
      refine WL_q rfl (ev_loads st29 sz29 rfl (cellsB hB6) rfl) ?_
      have eU45 := hr30.det1 hr40
      subst eU45
      refine WL_m rfl (ev_call rfl (eqNetwork_spec _ _ U30 _ hO40.is hN30 (by omega))) ?_
      rintro _ w45 ⟨rfl, hE45⟩
      have hz45 := hE45.size
      replace hE := hE.trans hE45
      replace hA := hA.ext hE45
      replace hC := hC.ext hE45
      replace hB2 := hB2.ext hE45
      replace hF27 := hF27.ext hE45
      replace hN27 := hN27.ext hE45
      replace hF29 := hF29.ext hE45
      replace hI29 := hI29.ext hE45
      replace hN30 := hN30.ext hE45
      replace hB6 := hB6.ext hE45
      replace hF34 := hF34.ext hE45
      replace hN34 := hN34.ext hE45
      replace hB8 := hB8.ext hE45
      replace hF36 := hF36.ext hE45
      replace hI36 := hI36.ext hE45
      replace hO40 := hO40.ext hE45
      replace hB10 := hB10.ext hE45
      refine WL_q rfl (ev_not rfl) ?_
      refine WL_q rfl (ev_move rfl) ?_
      refine WL_splitv (t := 47) rfl (fun hg46 => ?_) (fun hg46 => ?_)
      · have hg45 := not_true hg46
        refine WL_no rfl rfl hg46 rfl ?_
        refine WL_no rfl rfl hg46 rfl ?_
        refine WL_no rfl rfl hg46 rfl ?_
        refine WL_q rfl (ev_pick_t rfl hg46 rfl) ?_
        refine WL_nil ?_
        refine thenE_n ?_
        refine W_cond_t rfl ?_
        refine W_seq ?_
        refine W_region ?_
        refine WL_q rfl (ev_assign rfl) ?_
        refine WL_nil ?_
        refine thenE_n ?_
        refine W_ret ?_
        refine thenE_r ?_
        refine ret1 rfl rfl ?_
        first | (exact ⟨rfl, hE⟩) | (exact (bneE hg45 (hr40.det1 hr30)).elim) | (exact absurd (hr40.det1 hr30) hp45) | (exact absurd (hr40.det1 hr30) (of_decide_eq_false hg45)) | (exact (bneE hg45 (hr40.det2 hr30)).elim) | (exact absurd (hr40.det2 hr30) hp45) | (exact absurd (hr40.det2 hr30) (of_decide_eq_false hg45)) | (exact (bneE hg45 (hr40.det3 hr30)).elim) | (exact absurd (hr40.det3 hr30) hp45) | (exact absurd (hr40.det3 hr30) (of_decide_eq_false hg45)) | (exact (tfX hg45).elim) | (exact (decF hg45).elim) | (exfalso; omega)
      · have hg45 := not_false hg46
        refine WL_qg rfl rfl hg46 rfl (ev_move rfl) ?_
        refine WL_qg rfl rfl hg46 rfl (ev_move rfl) ?_
        refine WL_qg rfl rfl hg46 rfl (ev_neq_b Try.underlying4 rfl rfl) ?_
        refine WL_q rfl (ev_pick_f rfl hg46 rfl) ?_
        refine WL_nil ?_
        refine thenE_n ?_
        refine W_cond rfl (fun hg50 => ?_) (fun hg50 => ?_)
        · refine W_seq ?_
          refine W_region ?_
          refine WL_q rfl (ev_assign rfl) ?_
          refine WL_nil ?_
          refine thenE_n ?_
          refine W_ret ?_
          refine thenE_r ?_
          refine ret1 rfl rfl ?_
          first | (exact ⟨rfl, hE⟩) | (exact (bneE hg50 (hr40.det1 hr30)).elim) | (exact absurd (hr40.det1 hr30) hp50) | (exact absurd (hr40.det1 hr30) (of_decide_eq_false hg50)) | (exact (bneE hg50 (hr40.det2 hr30)).elim) | (exact absurd (hr40.det2 hr30) hp50) | (exact absurd (hr40.det2 hr30) (of_decide_eq_false hg50)) | (exact (bneE hg50 (hr40.det3 hr30)).elim) | (exact absurd (hr40.det3 hr30) hp50) | (exact absurd (hr40.det3 hr30) (of_decide_eq_false hg50)) | (exact (tfX hg50).elim) | (exact (decF hg50).elim) | (exfalso; omega)
        · refine W_skip ?_
          refine thenE_n ?_
          refine W_seq ?_
          refine W_seq ?_
          refine W_drawE [(0, true), (1, true), (2, false), (3, false), (4, true)] mixed (by kernel_rfl) rfl (by kernel_rfl) ?_
          intro wd13 hEd13 hzd13
          replace hE := hE.trans hEd13
          replace hA := hA.ext hEd13
          replace hC := hC.ext hEd13
          replace hB2 := hB2.ext hEd13
          replace hF27 := hF27.ext hEd13
          replace hN27 := hN27.ext hEd13
          replace hF29 := hF29.ext hEd13
          replace hI29 := hI29.ext hEd13
          replace hN30 := hN30.ext hEd13
          replace hB6 := hB6.ext hEd13
          replace hF34 := hF34.ext hEd13
          replace hN34 := hN34.ext hEd13
          replace hB8 := hB8.ext hEd13
          replace hF36 := hF36.ext hEd13
          replace hI36 := hI36.ext hEd13
          replace hO40 := hO40.ext hEd13
          replace hB10 := hB10.ext hEd13
          have hDd13 := Ext.refl wd13
          refine PW_q rfl rfl (fun wq hq => ev_loads st29 sz29 rfl (cellsB (hq.blk hB8)) rfl) ?_
          refine PW_q rfl rfl (fun wq hq => ev_loads st25 sz25 rfl (cellsB (hq.blk hB2)) rfl) ?_
          refine PW_m rfl rfl (ev_call rfl (toNetwork_spec _ A _ hA (by omega) (by omega))) ?_
          rintro _ w54 ⟨h54, rfl, hF54, hE54⟩
          have hz54 := hE54.size
          replace hE := hE.trans hE54
          replace hDd13 := hDd13.trans hE54
          have hN54 := hF54.is
          refine ⟨hDd13, ?_⟩
          have hA_3 := hA.ext hDd13
          have hC_3 := hC.ext hDd13
          have hB2_3 := hB2.ext hDd13
          have hF27_3 := hF27.ext hDd13
          have hN27_3 := hN27.ext hDd13
          have hF29_3 := hF29.ext hDd13
          have hI29_3 := hI29.ext hDd13
          have hN30_3 := hN30.ext hDd13
          have hB6_3 := hB6.ext hDd13
          have hF34_3 := hF34.ext hDd13
          have hN34_3 := hN34.ext hDd13
          have hB8_3 := hB8.ext hDd13
          have hF36_3 := hF36.ext hDd13
          have hI36_3 := hI36.ext hDd13
          have hO40_3 := hO40.ext hDd13
          have hB10_3 := hB10.ext hDd13
          refine PW_m rfl rfl (ev_call rfl (eqNetwork_spec _ _ A _ hN34_3 hN54 (by omega))) ?_
          rintro _ w55 ⟨rfl, hE55⟩
          have hz55 := hE55.size
          replace hE := hE.trans hE55
          replace hDd13 := hDd13.trans hE55
          replace hF54 := hF54.ext hE55
          replace hN54 := hN54.ext hE55
          refine ⟨hDd13, ?_⟩
          refine PW_q rfl rfl (fun wq hq => ev_not rfl) ?_
          replace hA := hA.ext hDd13
          replace hC := hC.ext hDd13
          replace hB2 := hB2.ext hDd13
          replace hF27 := hF27.ext hDd13
          replace hN27 := hN27.ext hDd13
          replace hF29 := hF29.ext hDd13
          replace hI29 := hI29.ext hDd13
          replace hN30 := hN30.ext hDd13
          replace hB6 := hB6.ext hDd13
          replace hF34 := hF34.ext hDd13
          replace hN34 := hN34.ext hDd13
          replace hB8 := hB8.ext hDd13
          replace hF36 := hF36.ext hDd13
          replace hI36 := hI36.ext hDd13
          replace hO40 := hO40.ext hDd13
          replace hB10 := hB10.ext hDd13
          refine PW_nil ?_
          refine thenE_n ?_
          refine W_cond rfl (fun hg56 => ?_) (fun hg56 => ?_)
          · have hg55 := not_true hg56
            refine W_seq ?_
            refine W_region ?_
            refine WL_q rfl (ev_assign rfl) ?_
            refine WL_nil ?_
            refine thenE_n ?_
            refine W_ret ?_
            refine thenE_r ?_
            refine ret1 rfl rfl ?_
            first | (exact ⟨rfl, hE⟩) | (exact (bneE hg55 (hr40.det1 hr30)).elim) | (exact absurd (hr40.det1 hr30) hp55) | (exact absurd (hr40.det1 hr30) (of_decide_eq_false hg55)) | (exact (bneE hg55 (hr40.det2 hr30)).elim) | (exact absurd (hr40.det2 hr30) hp55) | (exact absurd (hr40.det2 hr30) (of_decide_eq_false hg55)) | (exact (bneE hg55 (hr40.det3 hr30)).elim) | (exact absurd (hr40.det3 hr30) hp55) | (exact absurd (hr40.det3 hr30) (of_decide_eq_false hg55)) | (exact (tfX hg55).elim) | (exact (decF hg55).elim) | (exfalso; omega)
          · have hg55 := not_false hg56
            refine W_skip ?_
            refine thenE_n ?_
            refine W_seq ?_
            refine W_seq ?_
            refine W_region ?_
            refine WL_q rfl (ev_move rfl) ?_
            refine WL_q rfl (ev_move rfl) ?_
            refine WL_m rfl (ev_call rfl (toIntS_spec _ _ C _ hC (by omega) (by omega))) ?_
            rintro _ w59 ⟨a59, rfl, hF59, hE59⟩
            have hz59 := hE59.size
            replace hE := hE.trans hE59
            replace hA := hA.ext hE59
            replace hC := hC.ext hE59
            replace hB2 := hB2.ext hE59
            replace hF27 := hF27.ext hE59
            replace hN27 := hN27.ext hE59
            replace hF29 := hF29.ext hE59
            replace hI29 := hI29.ext hE59
            replace hN30 := hN30.ext hE59
            replace hB6 := hB6.ext hE59
            replace hF34 := hF34.ext hE59
            replace hN34 := hN34.ext hE59
            replace hB8 := hB8.ext hE59
            replace hF36 := hF36.ext hE59
            replace hI36 := hI36.ext hE59
            replace hO40 := hO40.ext hE59
            replace hB10 := hB10.ext hE59
            replace hF54 := hF54.ext hE59
            replace hN54 := hN54.ext hE59
            have hI59 := hF59.is
            refine WL_m rfl (ev_call rfl (eqIntS_spec _ _ _ _ C C _ hI36 hI59 (by omega))) ?_
            rintro _ w60 ⟨rfl, hE60⟩
            have hz60 := hE60.size
            replace hE := hE.trans hE60
            replace hA := hA.ext hE60
            replace hC := hC.ext hE60
            replace hB2 := hB2.ext hE60
            replace hF27 := hF27.ext hE60
            replace hN27 := hN27.ext hE60
            replace hF29 := hF29.ext hE60
            replace hI29 := hI29.ext hE60
            replace hN30 := hN30.ext hE60
            replace hB6 := hB6.ext hE60
            replace hF34 := hF34.ext hE60
            replace hN34 := hN34.ext hE60
            replace hB8 := hB8.ext hE60
            replace hF36 := hF36.ext hE60
            replace hI36 := hI36.ext hE60
            replace hO40 := hO40.ext hE60
            replace hB10 := hB10.ext hE60
            replace hF54 := hF54.ext hE60
            replace hN54 := hN54.ext hE60
            replace hF59 := hF59.ext hE60
            replace hI59 := hI59.ext hE60
            refine WL_q rfl (ev_not rfl) ?_
            refine WL_nil ?_
            refine thenE_n ?_
            refine W_cond rfl (fun hg61 => ?_) (fun hg61 => ?_)
            · have hg60 := not_true hg61
              refine W_seq ?_
              refine W_region ?_
              refine WL_q rfl (ev_assign rfl) ?_
              refine WL_nil ?_
              refine thenE_n ?_
              refine W_ret ?_
              refine thenE_r ?_
              refine ret1 rfl rfl ?_
              first | (exact ⟨rfl, hE⟩) | (exact (bneE hg60 (hr40.det1 hr30)).elim) | (exact absurd (hr40.det1 hr30) hp60) | (exact absurd (hr40.det1 hr30) (of_decide_eq_false hg60)) | (exact (bneE hg60 (hr40.det2 hr30)).elim) | (exact absurd (hr40.det2 hr30) hp60) | (exact absurd (hr40.det2 hr30) (of_decide_eq_false hg60)) | (exact (bneE hg60 (hr40.det3 hr30)).elim) | (exact absurd (hr40.det3 hr30) hp60) | (exact absurd (hr40.det3 hr30) (of_decide_eq_false hg60)) | (exact (tfX hg60).elim) | (exact (decF hg60).elim) | (exfalso; omega)
            · have hg60 := not_false hg61
              refine W_skip ?_
              refine thenE_n ?_
              refine W_seq ?_
              refine W_region ?_
              refine WL_q rfl (ev_assign rfl) ?_
              refine WL_nil ?_
              refine thenE_n ?_
              refine W_seq ?_
              refine W_region ?_
              refine WL_q rfl (ev_loads st29 sz29 rfl (cellsB hB8) rfl) ?_
              refine WL_q rfl (ev_move rfl) ?_
              refine WL_m rfl (ev_call rfl (markNetwork_spec _ A _ _ hF34 (by omega) (by omega) (by omega))) ?_
              rintro _ w64 ⟨r64, rfl, hr64, hK64⟩
              have hz64 := hK64.size
              replace hE := hE.mrk hK64 (by omega)
              replace hA := hA.mrk hK64 (by omega)
              replace hC := hC.mrk hK64 (by omega)
              replace hB2 := hB2.mrk hK64 (by omega)
              replace hF27 := hF27.mrk hK64 (by omega)
              replace hN27 := hN27.mrk hK64 (by omega)
              replace hF29 := hF29.mrk hK64 (by omega)
              replace hI29 := hI29.mrk hK64 (by omega)
              replace hN30 := hN30.mrk hK64 (by omega)
              replace hB6 := hB6.mrk hK64 (by omega)
              replace hB8 := hB8.mrk hK64 (by omega)
              replace hF36 := hF36.mrk hK64 (by omega)
              replace hI36 := hI36.mrk hK64 (by omega)
              replace hO40 := hO40.mrk hK64 (by omega)
              replace hB10 := hB10.mrk hK64 (by omega)
              replace hF54 := hF54.mrk hK64 (by omega)
              replace hN54 := hN54.mrk hK64 (by omega)
              replace hF59 := hF59.mrk hK64 (by omega)
              replace hI59 := hI59.mrk hK64 (by omega)
              refine WL_q rfl (ev_assign rfl) ?_
              refine WL_nil ?_
              refine thenE_n ?_
              refine W_seq ?_
              refine W_region ?_
              refine WL_q rfl (ev_move rfl) ?_
              refine WL_q rfl (ev_move rfl) ?_
              refine WL_m rfl (ev_call rfl (markIntS_arg hF36 (by omega) (by omega))) ?_
              rintro _ w67 ⟨rfl, hK67⟩
              have hz67 := hK67.size
              replace hE := hE.mrk hK67 (by omega)
              replace hA := hA.mrk hK67 (by omega)
              replace hC := hC.mrk hK67 (by omega)
              replace hB2 := hB2.mrk hK67 (by omega)
              replace hF27 := hF27.mrk hK67 (by omega)
              replace hN27 := hN27.mrk hK67 (by omega)
              replace hF29 := hF29.mrk hK67 (by omega)
              replace hI29 := hI29.mrk hK67 (by omega)
              replace hN30 := hN30.mrk hK67 (by omega)
              replace hB6 := hB6.mrk hK67 (by omega)
              replace hB8 := hB8.mrk hK67 (by omega)
              replace hO40 := hO40.mrk hK67 (by omega)
              replace hB10 := hB10.mrk hK67 (by omega)
              replace hF54 := hF54.mrk hK67 (by omega)
              replace hN54 := hN54.mrk hK67 (by omega)
              replace hF59 := hF59.mrk hK67 (by omega)
              replace hI59 := hI59.mrk hK67 (by omega)
              refine WL_q rfl (ev_assign rfl) ?_
              refine WL_nil ?_
              refine thenE_n ?_
              refine W_seq ?_
              refine W_seq ?_
              refine W_region ?_
              refine WL_q rfl (ev_move rfl) ?_
              refine WL_q rfl (ev_lss rfl rfl) ?_
              refine WL_q rfl (ev_move rfl) ?_
              refine WL_splitv (t := 70) rfl (fun hg69 => ?_) (fun hg69 => ?_)
              · have hp69 := of_decide_eq_true hg69
                refine WL_no rfl rfl hg69 rfl ?_
                refine WL_no rfl rfl hg69 rfl ?_
                refine WL_no rfl rfl hg69 rfl ?_
                refine WL_no rfl rfl hg69 rfl ?_
                refine WL_q rfl (ev_pick_t rfl hg69 rfl) ?_
                refine WL_q rfl (ev_move rfl) ?_
                refine WL_no rfl rfl rfl rfl ?_
                refine WL_no rfl rfl rfl rfl ?_
                refine WL_no rfl rfl rfl rfl ?_
                refine WL_q rfl (ev_pick_t rfl rfl rfl) ?_
                refine WL_nil ?_
                refine thenE_n ?_
                refine W_cond_t rfl ?_
                refine W_seq ?_
                refine W_region ?_
                refine WL_q rfl (ev_assign rfl) ?_
                refine WL_nil ?_
                refine thenE_n ?_
                refine W_ret ?_
                refine thenE_r ?_
                refine ret1 rfl rfl ?_
                first | (exact ⟨rfl, hE⟩) | (exact (bneE hg69 (hr40.det1 hr30)).elim) | (exact absurd (hr40.det1 hr30) hp69) | (exact absurd (hr40.det1 hr30) (of_decide_eq_false hg69)) | (exact (bneE hg69 (hr40.det2 hr30)).elim) | (exact absurd (hr40.det2 hr30) hp69) | (exact absurd (hr40.det2 hr30) (of_decide_eq_false hg69)) | (exact (bneE hg69 (hr40.det3 hr30)).elim) | (exact absurd (hr40.det3 hr30) hp69) | (exact absurd (hr40.det3 hr30) (of_decide_eq_false hg69)) | (exact (tfX hg69).elim) | (exact (decF hg69).elim) | (exfalso; omega)
              · have hp69 := of_decide_eq_false hg69
                refine WL_qg rfl rfl hg69 rfl (ev_loads st29 sz29 rfl (cellsB hB10) rfl) ?_
                refine WL_qg rfl rfl hg69 rfl (ev_loads st29 sz29 rfl (cellsB hB6) rfl) ?_
                refine WL_mg rfl rfl hg69 rfl (ev_call rfl (eqNetwork_spec _ _ U30 _ hO40.is hN30 (by omega))) ?_
                rintro _ w73 ⟨rfl, hE73⟩
                have hz73 := hE73.size
                replace hE := hE.trans hE73
                replace hA := hA.ext hE73
                replace hC := hC.ext hE73
                replace hB2 := hB2.ext hE73
                replace hF27 := hF27.ext hE73
                replace hN27 := hN27.ext hE73
                replace hF29 := hF29.ext hE73
                replace hI29 := hI29.ext hE73
                replace hN30 := hN30.ext hE73
                replace hB6 := hB6.ext hE73
                replace hB8 := hB8.ext hE73
                replace hO40 := hO40.ext hE73
                replace hB10 := hB10.ext hE73
                replace hF54 := hF54.ext hE73
                replace hN54 := hN54.ext hE73
                replace hF59 := hF59.ext hE73
                replace hI59 := hI59.ext hE73
                refine WL_qg rfl rfl hg69 rfl (ev_not rfl) ?_
                refine WL_q rfl (ev_pick_f rfl hg69 rfl) ?_
                refine WL_q rfl (ev_move rfl) ?_
                refine WL_splitv (t := 76) rfl (fun hg74 => ?_) (fun hg74 => ?_)
                · have hg73 := not_true hg74
                  refine WL_no rfl rfl hg74 rfl ?_
                  refine WL_no rfl rfl hg74 rfl ?_
                  refine WL_no rfl rfl hg74 rfl ?_
                  refine WL_q rfl (ev_pick_t rfl hg74 rfl) ?_
                  refine WL_nil ?_
                  refine thenE_n ?_
                  refine W_cond_t rfl ?_
                  refine W_seq ?_
                  refine W_region ?_
                  refine WL_q rfl (ev_assign rfl) ?_
                  refine WL_nil ?_
                  refine thenE_n ?_
                  refine W_ret ?_
                  refine thenE_r ?_
                  refine ret1 rfl rfl ?_
                  first | (exact ⟨rfl, hE⟩) | (exact (bneE hg73 (hr40.det1 hr30)).elim) | (exact absurd (hr40.det1 hr30) hp73) | (exact absurd (hr40.det1 hr30) (of_decide_eq_false hg73)) | (exact (bneE hg73 (hr40.det2 hr30)).elim) | (exact absurd (hr40.det2 hr30) hp73) | (exact absurd (hr40.det2 hr30) (of_decide_eq_false hg73)) | (exact (bneE hg73 (hr40.det3 hr30)).elim) | (exact absurd (hr40.det3 hr30) hp73) | (exact absurd (hr40.det3 hr30) (of_decide_eq_false hg73)) | (exact (tfX hg73).elim) | (exact (decF hg73).elim) | (exfalso; omega)
                · have hg73 := not_false hg74
                  refine WL_qg rfl rfl hg74 rfl (ev_move rfl) ?_
                  refine WL_qg rfl rfl hg74 rfl (ev_move rfl) ?_
                  refine WL_qg rfl rfl hg74 rfl (ev_neq_b Try.underlying4 rfl rfl) ?_
                  refine WL_q rfl (ev_pick_f rfl hg74 rfl) ?_
                  refine WL_nil ?_
                  refine thenE_n ?_
                  refine W_cond rfl (fun hg79 => ?_) (fun hg79 => ?_)
                  · refine W_seq ?_
                    refine W_region ?_
                    refine WL_q rfl (ev_assign rfl) ?_
                    refine WL_nil ?_
                    refine thenE_n ?_
                    refine W_ret ?_
                    refine thenE_r ?_
                    refine ret1 rfl rfl ?_
                    first | (exact ⟨rfl, hE⟩) | (exact (bneE hg79 (hr40.det1 hr30)).elim) | (exact absurd (hr40.det1 hr30) hp79) | (exact absurd (hr40.det1 hr30) (of_decide_eq_false hg79)) | (exact (bneE hg79 (hr40.det2 hr30)).elim) | (exact absurd (hr40.det2 hr30) hp79) | (exact absurd (hr40.det2 hr30) (of_decide_eq_false hg79)) | (exact (bneE hg79 (hr40.det3 hr30)).elim) | (exact absurd (hr40.det3 hr30) hp79) | (exact absurd (hr40.det3 hr30) (of_decide_eq_false hg79)) | (exact (tfX hg79).elim) | (exact (decF hg79).elim) | (exfalso; omega)
                  · refine W_skip ?_
                    refine thenE_n ?_
                    refine W_seq ?_
                    refine W_region ?_
                    refine WL_q rfl (ev_assign rfl) ?_
                    refine WL_nil ?_
                    refine thenE_n ?_
                    refine W_seq ?_
                    refine W_region ?_
                    refine WL_q rfl (ev_loads st29 sz29 rfl (cellsB hB10) rfl) ?_
                    refine WL_q rfl (ev_move rfl) ?_
                    refine WL_m rfl (ev_call rfl (markNetwork_net _ U30 _ _ hO40 (by omega) (by omega) (by omega))) ?_
                    rintro _ w83 ⟨rfl, hO83, hK83⟩
                    have hz83 := hK83.size
                    have hR83 := hK83
                    replace hE := hE.rg hR83 (by omega)
                    replace hA := hA.rg hR83 (by omega)
                    replace hC := hC.rg hR83 (by omega)
                    replace hB2 := hB2.rg hR83 (by omega)
                    replace hF27 := hF27.rg hR83 (by omega)
                    replace hN27 := hN27.rg hR83 (by omega)
                    replace hF29 := hF29.rg hR83 (by omega)
                    replace hI29 := hI29.rg hR83 (by omega)
                    replace hN30 := hN30.rg hR83 (by omega)
                    replace hB6 := hB6.rg hR83 (by omega)
                    replace hB8 := hB8.rg hR83 (by omega)
                    replace hB10 := hB10.rg hR83 (by omega)
                    replace hF54 := hF54.rg hR83 (by omega)
                    replace hN54 := hN54.rg hR83 (by omega)
                    replace hF59 := hF59.rg hR83 (by omega)
                    replace hI59 := hI59.rg hR83 (by omega)
                    replace hO40 := hO83
                    have hmk : 1 ≤ mkT 1 U30 := by unfold mkT; omega
                    refine WL_q rfl (ev_assign rfl) ?_
                    refine WL_nil ?_
                    refine thenE_n ?_
                    refine W_seq ?_
                    refine W_region ?_
                    refine WL_q rfl (ev_assign rfl) ?_
                    refine WL_nil ?_
                    refine thenE_n ?_
                    refine W_seq ?_
                    refine W_region ?_
                    refine WL_q rfl (ev_loads st29 sz29 rfl (cellsB hB10) rfl) ?_
                    refine WL_q rfl (ev_move rfl) ?_
                    refine WL_m rfl (ev_call rfl (heldNetwork_net _ U30 _ _ hO40.is (by omega) (by omega))) ?_
                    rintro _ w86 ⟨rfl, hE86⟩
                    have hz86 := hE86.size
                    replace hE := hE.trans hE86
                    replace hA := hA.ext hE86
                    replace hC := hC.ext hE86
                    replace hB2 := hB2.ext hE86
                    replace hF27 := hF27.ext hE86
                    replace hN27 := hN27.ext hE86
                    replace hF29 := hF29.ext hE86
                    replace hI29 := hI29.ext hE86
                    replace hN30 := hN30.ext hE86
                    replace hB6 := hB6.ext hE86
                    replace hB8 := hB8.ext hE86
                    replace hO40 := hO40.ext hE86
                    replace hB10 := hB10.ext hE86
                    replace hF54 := hF54.ext hE86
                    replace hN54 := hN54.ext hE86
                    replace hF59 := hF59.ext hE86
                    replace hI59 := hI59.ext hE86
                    refine WL_q rfl (ev_assign rfl) ?_
                    refine WL_nil ?_
                    refine thenE_n ?_
                    refine W_seq ?_
                    refine W_seq ?_
                    refine W_region ?_
                    refine WL_q rfl (ev_move rfl) ?_
                    refine WL_q rfl (ev_lss rfl rfl) ?_
                    refine WL_nil ?_
                    refine thenE_n ?_
                    refine W_cond rfl (fun hg88 => ?_) (fun hg88 => ?_)
                    · have hp88 := of_decide_eq_true hg88
                      refine W_seq ?_
                      refine W_region ?_
                      refine WL_q rfl (ev_assign rfl) ?_
                      refine WL_nil ?_
                      refine thenE_n ?_
                      refine W_ret ?_
                      refine thenE_r ?_
                      refine ret1 rfl rfl ?_
                      first | (exact ⟨rfl, hE⟩) | (exact (bneE hg88 (hr40.det1 hr30)).elim) | (exact absurd (hr40.det1 hr30) hp88) | (exact absurd (hr40.det1 hr30) (of_decide_eq_false hg88)) | (exact (bneE hg88 (hr40.det2 hr30)).elim) | (exact absurd (hr40.det2 hr30) hp88) | (exact absurd (hr40.det2 hr30) (of_decide_eq_false hg88)) | (exact (bneE hg88 (hr40.det3 hr30)).elim) | (exact absurd (hr40.det3 hr30) hp88) | (exact absurd (hr40.det3 hr30) (of_decide_eq_false hg88)) | (exact (tfX hg88).elim) | (exact (decF hg88).elim) | (exfalso; omega)
                    · have hp88 := of_decide_eq_false hg88
                      refine W_skip ?_
                      refine thenE_n ?_
                      refine W_seq ?_
                      refine W_seq ?_
                      refine W_region ?_
                      refine WL_q rfl (ev_move rfl) ?_
                      refine WL_q rfl (ev_move rfl) ?_
                      refine WL_q rfl (ev_neq rfl rfl) ?_
                      refine WL_nil ?_
                      refine thenE_n ?_
                      refine W_cond rfl (fun hg91 => ?_) (fun hg91 => ?_)
                      · have hp91 := of_decide_eq_true hg91
                        refine W_seq ?_
                        refine W_region ?_
                        refine WL_q rfl (ev_assign rfl) ?_
                        refine WL_nil ?_
                        refine thenE_n ?_
                        refine W_ret ?_
                        refine thenE_r ?_
                        refine ret1 rfl rfl ?_
                        first | (exact ⟨rfl, hE⟩) | (exact (bneE hg91 (hr40.det1 hr30)).elim) | (exact absurd (hr40.det1 hr30) hp91) | (exact absurd (hr40.det1 hr30) (of_decide_eq_false hg91)) | (exact (bneE hg91 (hr40.det2 hr30)).elim) | (exact absurd (hr40.det2 hr30) hp91) | (exact absurd (hr40.det2 hr30) (of_decide_eq_false hg91)) | (exact (bneE hg91 (hr40.det3 hr30)).elim) | (exact absurd (hr40.det3 hr30) hp91) | (exact absurd (hr40.det3 hr30) (of_decide_eq_false hg91)) | (exact (tfX hg91).elim) | (exact (decF hg91).elim) | (exfalso; omega)
                      · have hp91 := of_decide_eq_false hg91
                        refine W_skip ?_
                        refine thenE_n ?_
                        refine W_seq ?_
                        refine W_region ?_
                        refine WL_q rfl (ev_loads st25 sz25 rfl (cellsB hB2) rfl) ?_
                        refine WL_m rfl (ev_call rfl (toNetwork_spec _ A _ hA (by omega) (by omega))) ?_
                        rintro _ w94 ⟨h94, rfl, hF94, hE94⟩
                        have hz94 := hE94.size
                        replace hE := hE.trans hE94
                        replace hA := hA.ext hE94
                        replace hC := hC.ext hE94
                        replace hB2 := hB2.ext hE94
                        replace hF27 := hF27.ext hE94
                        replace hN27 := hN27.ext hE94
                        replace hF29 := hF29.ext hE94
                        replace hI29 := hI29.ext hE94
                        replace hN30 := hN30.ext hE94
                        replace hB6 := hB6.ext hE94
                        replace hB8 := hB8.ext hE94
                        replace hO40 := hO40.ext hE94
                        replace hB10 := hB10.ext hE94
                        replace hF54 := hF54.ext hE94
                        replace hN54 := hN54.ext hE94
                        replace hF59 := hF59.ext hE94
                        replace hI59 := hI59.ext hE94
                        have hN94 := hF94.is
                        refine WL_q rfl (ev_move rfl) ?_
                        refine WL_m rfl (ev_call rfl (toIntS_spec _ _ C _ hC (by omega) (by omega))) ?_
                        rintro _ w96 ⟨a96, rfl, hF96, hE96⟩
                        have hz96 := hE96.size
                        replace hE := hE.trans hE96
                        replace hA := hA.ext hE96
                        replace hC := hC.ext hE96
                        replace hB2 := hB2.ext hE96
                        replace hF27 := hF27.ext hE96
                        replace hN27 := hN27.ext hE96
                        replace hF29 := hF29.ext hE96
                        replace hI29 := hI29.ext hE96
                        replace hN30 := hN30.ext hE96
                        replace hB6 := hB6.ext hE96
                        replace hB8 := hB8.ext hE96
                        replace hO40 := hO40.ext hE96
                        replace hB10 := hB10.ext hE96
                        replace hF54 := hF54.ext hE96
                        replace hN54 := hN54.ext hE96
                        replace hF59 := hF59.ext hE96
                        replace hI59 := hI59.ext hE96
                        replace hF94 := hF94.ext hE96
                        replace hN94 := hN94.ext hE96
                        have hI96 := hF96.is
                        refine WL_m rfl (ev_call rfl (QuotientOf_spec _ A _ _ C _ hN94 (by omega) (by omega) hI96 (by omega) (by omega))) ?_
                        rintro _ w97 ⟨h97, U97, q97, rfl, hr97, hO97, hl97, hE97⟩
                        have hz97 := hE97.size
                        replace hE := hE.trans hE97
                        replace hA := hA.ext hE97
                        replace hC := hC.ext hE97
                        replace hB2 := hB2.ext hE97
                        replace hF27 := hF27.ext hE97
                        replace hN27 := hN27.ext hE97
                        replace hF29 := hF29.ext hE97
                        replace hI29 := hI29.ext hE97
                        replace hN30 := hN30.ext hE97
                        replace hB6 := hB6.ext hE97
                        replace hB8 := hB8.ext hE97
                        replace hO40 := hO40.ext hE97
                        replace hB10 := hB10.ext hE97
                        replace hF54 := hF54.ext hE97
                        replace hN54 := hN54.ext hE97
                        replace hF59 := hF59.ext hE97
                        replace hI59 := hI59.ext hE97
                        replace hF94 := hF94.ext hE97
                        replace hN94 := hN94.ext hE97
                        replace hF96 := hF96.ext hE97
                        replace hI96 := hI96.ext hE97
                        refine WL_q rfl (ev_move rfl) ?_
                        refine WL_q rfl (ev_extract rfl rfl) ?_
                        refine WL_q rfl (ev_extract rfl rfl) ?_
                        refine WL_m rfl (ev_alloc zr29) ?_
                        rintro _ w15 ⟨rfl, hN15⟩
                        have hz15 := hN15.size
                        replace hE := hE.trans hN15.ext
                        replace hA := hA.ext hN15.ext
                        replace hC := hC.ext hN15.ext
                        replace hB2 := hB2.ext hN15.ext
                        replace hF27 := hF27.ext hN15.ext
                        replace hN27 := hN27.ext hN15.ext
                        replace hF29 := hF29.ext hN15.ext
                        replace hI29 := hI29.ext hN15.ext
                        replace hN30 := hN30.ext hN15.ext
                        replace hB6 := hB6.ext hN15.ext
                        replace hB8 := hB8.ext hN15.ext
                        replace hO40 := hO40.ext hN15.ext
                        replace hB10 := hB10.ext hN15.ext
                        replace hF54 := hF54.ext hN15.ext
                        replace hN54 := hN54.ext hN15.ext
                        replace hF59 := hF59.ext hN15.ext
                        replace hI59 := hI59.ext hN15.ext
                        replace hF94 := hF94.ext hN15.ext
                        replace hN94 := hN94.ext hN15.ext
                        replace hF96 := hF96.ext hN15.ext
                        replace hI96 := hI96.ext hN15.ext
                        replace hO97 := hO97.ext hN15.ext
                        have hB15 : Blk w15 _ _ [_, _, _] := hN15.blk
                        refine WL_s (ev_stores sz29 rfl rfl rfl (by simp [Value.oneCell']) hB15 (by simp)) ?_
                        rintro _ w30_9 hS30_9
                        have hz30_9 := hS30_9.size
                        replace hE := hE.sto hS30_9 (by omega)
                        replace hA := hA.sto hS30_9 (by omega)
                        replace hC := hC.sto hS30_9 (by omega)
                        replace hB2 := hB2.sto hS30_9 (by omega)
                        replace hF27 := hF27.sto hS30_9 (by omega)
                        replace hN27 := hN27.sto hS30_9 (by omega)
                        replace hF29 := hF29.sto hS30_9 (by omega)
                        replace hI29 := hI29.sto hS30_9 (by omega)
                        replace hN30 := hN30.sto hS30_9 (by omega)
                        replace hB6 := hB6.sto hS30_9 (by omega)
                        replace hB8 := hB8.sto hS30_9 (by omega)
                        replace hO40 := hO40.sto hS30_9 (by omega)
                        replace hB10 := hB10.sto hS30_9 (by omega)
                        replace hF54 := hF54.sto hS30_9 (by omega)
                        replace hN54 := hN54.sto hS30_9 (by omega)
                        replace hF59 := hF59.sto hS30_9 (by omega)
                        replace hI59 := hI59.sto hS30_9 (by omega)
                        replace hF94 := hF94.sto hS30_9 (by omega)
                        replace hN94 := hN94.sto hS30_9 (by omega)
                        replace hF96 := hF96.sto hS30_9 (by omega)
                        replace hI96 := hI96.sto hS30_9 (by omega)
                        replace hO97 := hO97.sto hS30_9 (by omega)
                        replace hB15 : Blk w30_9 _ _ [_, _, _] := hS30_9.blk
                        refine WL_q rfl (ev_assign rfl) ?_
                        refine WL_nil ?_
                        refine thenE_n ?_
                        refine W_seq ?_
                        refine W_seq ?_
                        refine W_region ?_
                        refine WL_q rfl (ev_loads st29 sz29 rfl (cellsB hB15) rfl) ?_
                        refine WL_q rfl (ev_loads st29 sz29 rfl (cellsB hB6) rfl) ?_
                        have eU102 := hr30.det1 hr97
                        subst eU102
                        refine WL_m rfl (ev_call rfl (eqNetwork_spec _ _ U30 _ hO97.is hN30 (by omega))) ?_
                        rintro _ w102 ⟨rfl, hE102⟩
                        have hz102 := hE102.size
                        replace hE := hE.trans hE102
                        replace hA := hA.ext hE102
                        replace hC := hC.ext hE102
                        replace hB2 := hB2.ext hE102
                        replace hF27 := hF27.ext hE102
                        replace hN27 := hN27.ext hE102
                        replace hF29 := hF29.ext hE102
                        replace hI29 := hI29.ext hE102
                        replace hN30 := hN30.ext hE102
                        replace hB6 := hB6.ext hE102
                        replace hB8 := hB8.ext hE102
                        replace hO40 := hO40.ext hE102
                        replace hB10 := hB10.ext hE102
                        replace hF54 := hF54.ext hE102
                        replace hN54 := hN54.ext hE102
                        replace hF59 := hF59.ext hE102
                        replace hI59 := hI59.ext hE102
                        replace hF94 := hF94.ext hE102
                        replace hN94 := hN94.ext hE102
                        replace hF96 := hF96.ext hE102
                        replace hI96 := hI96.ext hE102
                        replace hO97 := hO97.ext hE102
                        replace hB15 := hB15.ext hE102
                        refine WL_q rfl (ev_not rfl) ?_
                        refine WL_q rfl (ev_move rfl) ?_
                        refine WL_splitv (t := 104) rfl (fun hg103 => ?_) (fun hg103 => ?_)
                        · have hg102 := not_true hg103
                          refine WL_no rfl rfl hg103 rfl ?_
                          refine WL_no rfl rfl hg103 rfl ?_
                          refine WL_no rfl rfl hg103 rfl ?_
                          refine WL_q rfl (ev_pick_t rfl hg103 rfl) ?_
                          refine WL_nil ?_
                          refine thenE_n ?_
                          refine W_cond_t rfl ?_
                          refine W_seq ?_
                          refine W_region ?_
                          refine WL_q rfl (ev_assign rfl) ?_
                          refine WL_nil ?_
                          refine thenE_n ?_
                          refine W_ret ?_
                          refine thenE_r ?_
                          refine ret1 rfl rfl ?_
                          first | (exact ⟨rfl, hE⟩) | (exact (bneE hg102 (hr97.det1 hr30)).elim) | (exact absurd (hr97.det1 hr30) hp102) | (exact absurd (hr97.det1 hr30) (of_decide_eq_false hg102)) | (exact (bneE hg102 (hr97.det2 hr30)).elim) | (exact absurd (hr97.det2 hr30) hp102) | (exact absurd (hr97.det2 hr30) (of_decide_eq_false hg102)) | (exact (bneE hg102 (hr97.det3 hr30)).elim) | (exact absurd (hr97.det3 hr30) hp102) | (exact absurd (hr97.det3 hr30) (of_decide_eq_false hg102)) | (exact (bneE hg102 (hr40.det1 hr30)).elim) | (exact absurd (hr40.det1 hr30) hp102) | (exact absurd (hr40.det1 hr30) (of_decide_eq_false hg102)) | (exact (bneE hg102 (hr40.det2 hr30)).elim) | (exact absurd (hr40.det2 hr30) hp102) | (exact absurd (hr40.det2 hr30) (of_decide_eq_false hg102)) | (exact (bneE hg102 (hr40.det3 hr30)).elim) | (exact absurd (hr40.det3 hr30) hp102) | (exact absurd (hr40.det3 hr30) (of_decide_eq_false hg102)) | (exact (tfX hg102).elim) | (exact (decF hg102).elim) | (exfalso; omega)
                        · have hg102 := not_false hg103
                          refine WL_qg rfl rfl hg103 rfl (ev_move rfl) ?_
                          refine WL_qg rfl rfl hg103 rfl (ev_move rfl) ?_
                          refine WL_qg rfl rfl hg103 rfl (ev_neq_b Try.underlying4 rfl rfl) ?_
                          refine WL_q rfl (ev_pick_f rfl hg103 rfl) ?_
                          refine WL_nil ?_
                          refine thenE_n ?_
                          refine W_cond rfl (fun hg107 => ?_) (fun hg107 => ?_)
                          · refine W_seq ?_
                            refine W_region ?_
                            refine WL_q rfl (ev_assign rfl) ?_
                            refine WL_nil ?_
                            refine thenE_n ?_
                            refine W_ret ?_
                            refine thenE_r ?_
                            refine ret1 rfl rfl ?_
                            first | (exact ⟨rfl, hE⟩) | (exact (bneE hg107 (hr97.det1 hr30)).elim) | (exact absurd (hr97.det1 hr30) hp107) | (exact absurd (hr97.det1 hr30) (of_decide_eq_false hg107)) | (exact (bneE hg107 (hr97.det2 hr30)).elim) | (exact absurd (hr97.det2 hr30) hp107) | (exact absurd (hr97.det2 hr30) (of_decide_eq_false hg107)) | (exact (bneE hg107 (hr97.det3 hr30)).elim) | (exact absurd (hr97.det3 hr30) hp107) | (exact absurd (hr97.det3 hr30) (of_decide_eq_false hg107)) | (exact (bneE hg107 (hr40.det1 hr30)).elim) | (exact absurd (hr40.det1 hr30) hp107) | (exact absurd (hr40.det1 hr30) (of_decide_eq_false hg107)) | (exact (bneE hg107 (hr40.det2 hr30)).elim) | (exact absurd (hr40.det2 hr30) hp107) | (exact absurd (hr40.det2 hr30) (of_decide_eq_false hg107)) | (exact (bneE hg107 (hr40.det3 hr30)).elim) | (exact absurd (hr40.det3 hr30) hp107) | (exact absurd (hr40.det3 hr30) (of_decide_eq_false hg107)) | (exact (tfX hg107).elim) | (exact (decF hg107).elim) | (exfalso; omega)
                          · refine W_skip ?_
                            refine thenE_n ?_
                            refine W_seq ?_
                            refine W_region ?_
                            refine WL_q rfl (ev_assign rfl) ?_
                            refine WL_nil ?_
                            refine thenE_n ?_
                            refine W_seq ?_
                            refine W_region ?_
                            refine WL_q rfl (ev_loads st29 sz29 rfl (cellsB hB10) rfl) ?_
                            refine WL_q rfl (ev_move rfl) ?_
                            refine WL_m rfl (ev_call rfl (heldNetwork_net _ U30 _ _ hO40.is (by omega) (by omega))) ?_
                            rintro _ w111 ⟨rfl, hE111⟩
                            have hz111 := hE111.size
                            replace hE := hE.trans hE111
                            replace hA := hA.ext hE111
                            replace hC := hC.ext hE111
                            replace hB2 := hB2.ext hE111
                            replace hF27 := hF27.ext hE111
                            replace hN27 := hN27.ext hE111
                            replace hF29 := hF29.ext hE111
                            replace hI29 := hI29.ext hE111
                            replace hN30 := hN30.ext hE111
                            replace hB6 := hB6.ext hE111
                            replace hB8 := hB8.ext hE111
                            replace hO40 := hO40.ext hE111
                            replace hB10 := hB10.ext hE111
                            replace hF54 := hF54.ext hE111
                            replace hN54 := hN54.ext hE111
                            replace hF59 := hF59.ext hE111
                            replace hI59 := hI59.ext hE111
                            replace hF94 := hF94.ext hE111
                            replace hN94 := hN94.ext hE111
                            replace hF96 := hF96.ext hE111
                            replace hI96 := hI96.ext hE111
                            replace hO97 := hO97.ext hE111
                            replace hB15 := hB15.ext hE111
                            refine WL_q rfl (ev_assign rfl) ?_
                            refine WL_nil ?_
                            refine thenE_n ?_
                            refine W_seq ?_
                            refine W_seq ?_
                            refine W_region ?_
                            refine WL_q rfl (ev_move rfl) ?_
                            refine WL_q rfl (ev_lss rfl rfl) ?_
                            refine WL_nil ?_
                            refine thenE_n ?_
                            refine W_cond rfl (fun hg113 => ?_) (fun hg113 => ?_)
                            · have hp113 := of_decide_eq_true hg113
                              refine W_seq ?_
                              refine W_region ?_
                              refine WL_q rfl (ev_assign rfl) ?_
                              refine WL_nil ?_
                              refine thenE_n ?_
                              refine W_ret ?_
                              refine thenE_r ?_
                              refine ret1 rfl rfl ?_
                              first | (exact ⟨rfl, hE⟩) | (exact (bneE hg113 (hr97.det1 hr30)).elim) | (exact absurd (hr97.det1 hr30) hp113) | (exact absurd (hr97.det1 hr30) (of_decide_eq_false hg113)) | (exact (bneE hg113 (hr97.det2 hr30)).elim) | (exact absurd (hr97.det2 hr30) hp113) | (exact absurd (hr97.det2 hr30) (of_decide_eq_false hg113)) | (exact (bneE hg113 (hr97.det3 hr30)).elim) | (exact absurd (hr97.det3 hr30) hp113) | (exact absurd (hr97.det3 hr30) (of_decide_eq_false hg113)) | (exact (bneE hg113 (hr40.det1 hr30)).elim) | (exact absurd (hr40.det1 hr30) hp113) | (exact absurd (hr40.det1 hr30) (of_decide_eq_false hg113)) | (exact (bneE hg113 (hr40.det2 hr30)).elim) | (exact absurd (hr40.det2 hr30) hp113) | (exact absurd (hr40.det2 hr30) (of_decide_eq_false hg113)) | (exact (bneE hg113 (hr40.det3 hr30)).elim) | (exact absurd (hr40.det3 hr30) hp113) | (exact absurd (hr40.det3 hr30) (of_decide_eq_false hg113)) | (exact (tfX hg113).elim) | (exact (decF hg113).elim) | (exfalso; omega)
                            · have hp113 := of_decide_eq_false hg113
                              refine W_skip ?_
                              refine thenE_n ?_
                              refine W_seq ?_
                              refine W_seq ?_
                              refine W_region ?_
                              refine WL_q rfl (ev_move rfl) ?_
                              refine WL_q rfl (ev_move rfl) ?_
                              refine WL_q rfl (ev_neq rfl rfl) ?_
                              refine WL_nil ?_
                              refine thenE_n ?_
                              refine W_cond rfl (fun hg116 => ?_) (fun hg116 => ?_)
                              · have hp116 := of_decide_eq_true hg116
                                refine W_seq ?_
                                refine W_region ?_
                                refine WL_q rfl (ev_assign rfl) ?_
                                refine WL_nil ?_
                                refine thenE_n ?_
                                refine W_ret ?_
                                refine thenE_r ?_
                                refine ret1 rfl rfl ?_
                                first | (exact ⟨rfl, hE⟩) | (exact (bneE hg116 (hr97.det1 hr30)).elim) | (exact absurd (hr97.det1 hr30) hp116) | (exact absurd (hr97.det1 hr30) (of_decide_eq_false hg116)) | (exact (bneE hg116 (hr97.det2 hr30)).elim) | (exact absurd (hr97.det2 hr30) hp116) | (exact absurd (hr97.det2 hr30) (of_decide_eq_false hg116)) | (exact (bneE hg116 (hr97.det3 hr30)).elim) | (exact absurd (hr97.det3 hr30) hp116) | (exact absurd (hr97.det3 hr30) (of_decide_eq_false hg116)) | (exact (bneE hg116 (hr40.det1 hr30)).elim) | (exact absurd (hr40.det1 hr30) hp116) | (exact absurd (hr40.det1 hr30) (of_decide_eq_false hg116)) | (exact (bneE hg116 (hr40.det2 hr30)).elim) | (exact absurd (hr40.det2 hr30) hp116) | (exact absurd (hr40.det2 hr30) (of_decide_eq_false hg116)) | (exact (bneE hg116 (hr40.det3 hr30)).elim) | (exact absurd (hr40.det3 hr30) hp116) | (exact absurd (hr40.det3 hr30) (of_decide_eq_false hg116)) | (exact (tfX hg116).elim) | (exact (decF hg116).elim) | (exfalso; omega)
                              · have hp116 := of_decide_eq_false hg116
                                refine W_skip ?_
                                refine thenE_n ?_
                                refine W_seq ?_
                                refine W_region ?_
                                refine WL_q rfl (ev_assign rfl) ?_
                                refine WL_nil ?_
                                refine thenE_n ?_
                                refine W_ret ?_
                                refine ret1 rfl rfl ?_
                                first | (exact ⟨rfl, hE⟩) | (exact (bneE hg116 (hr97.det1 hr30)).elim) | (exact absurd (hr97.det1 hr30) hp116) | (exact absurd (hr97.det1 hr30) (of_decide_eq_false hg116)) | (exact (bneE hg116 (hr97.det2 hr30)).elim) | (exact absurd (hr97.det2 hr30) hp116) | (exact absurd (hr97.det2 hr30) (of_decide_eq_false hg116)) | (exact (bneE hg116 (hr97.det3 hr30)).elim) | (exact absurd (hr97.det3 hr30) hp116) | (exact absurd (hr97.det3 hr30) (of_decide_eq_false hg116)) | (exact (bneE hg116 (hr40.det1 hr30)).elim) | (exact absurd (hr40.det1 hr30) hp116) | (exact absurd (hr40.det1 hr30) (of_decide_eq_false hg116)) | (exact (bneE hg116 (hr40.det2 hr30)).elim) | (exact absurd (hr40.det2 hr30) hp116) | (exact absurd (hr40.det2 hr30) (of_decide_eq_false hg116)) | (exact (bneE hg116 (hr40.det3 hr30)).elim) | (exact absurd (hr40.det3 hr30) hp116) | (exact absurd (hr40.det3 hr30) (of_decide_eq_false hg116)) | (exact (tfX hg116).elim) | (exact (decF hg116).elim) | (exfalso; omega)

end Go.Proofs.Ytmdmpapdjgcchaa
