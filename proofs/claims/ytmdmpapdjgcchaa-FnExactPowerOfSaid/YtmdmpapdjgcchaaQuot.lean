/- Contracts of the network of classes, of the program and of the reference; the walks of FnExactQuotientOf and FnExactMinimalBase. -/
import Derived.Test.YtmdmpapdjgcchaaNetAcc
import Derived.Test.YtmdmpapdjgcchaaBuild
import Derived.Test.YtmdmpapdjgcchaaCovering
import Derived.Test.YtmdmpapdjgcchaaDrawV
import Derived.Test.YtmdmpapdjgcchaaView2
namespace Go.Proofs.Ytmdmpapdjgcchaa
open Go Go.RowKit

theorem fibs_mem (m : List Int) (n v : Nat) : ∀ r ∈ fibsN m n v, ∀ x ∈ r, 0 ≤ x ∧ x < (v : Int) := by
  induction v with
  | zero => intro r hr x hx; simp [fibsN] at hr; rw [hr.2] at hx; simp at hx
  | succ v ih =>
    intro r hr x hx
    unfold fibsN at hr
    split at hr
    · rcases List.mem_or_eq_of_mem_set hr with h | h
      · have := ih r h x hx; omega
      · subst h
        rcases List.mem_append.1 hx with h | h
        · rename_i y _
          by_cases hb : y.toNat < (fibsN m n v).length
          · rw [getD_eq hb] at h; have := ih _ (List.getElem_mem hb) x h; omega
          · simp [List.getD, List.getElem?_eq_none (Nat.le_of_not_lt hb)] at h
        · simp at h; omega
    · have := ih r hr x hx; omega
theorem fibs_at {m : List Int} {n i j : Nat} (hi : i < (fibs m n).length) (hj : j < (fibs m n)[i].length) : 0 ≤ (fibs m n)[i][j] ∧ (fibs m n)[i][j].toNat < m.length := by
  have := fibs_mem m n m.length _ (List.getElem_mem hi) _ (List.getElem_mem hj)
  unfold fibs at *
  omega
theorem fibs_row {m : List Int} {n i : Nat} (hi : i < (fibs m n).length) : (fibs m n)[i].length ≤ m.length := fibsN_row m n m.length _ (List.getElem_mem hi)
theorem lmax_of_mem {xs : List Int} {x : Int} (h : x ∈ xs) : x ≤ lmax xs := by
  cases xs with
  | nil => cases h
  | cons y r =>
    show x ≤ r.foldl max y
    rcases List.mem_cons.1 h with e | e
    · subst e; exact (foldl_max_ge r _).1
    · exact (foldl_max_ge r y).2 x e
/-- The first node of a class. -/
def hd0 (C : List Int) (K c : Nat) : Int := ((fibs C K).getD c []).getD 0 0
theorem hd0_at {C : List Int} {K c : Nat} (h : c < (fibs C K).length) (h0 : 0 < (fibs C K)[c].length) : (fibs C K)[c][0] = hd0 C K c := by unfold hd0; rw [getD_eq h, getD_eq h0]
def qRow (A : Net) (C : List Int) (K c : Nat) : List (Int × Int) := (A.ends.getD (hd0 C K c).toNat []).map fun e => (C.getD e.1.toNat 0, e.2)
def qE (A : Net) (C : List Int) (K i : Nat) : Ends := (List.range i).map (qRow A C K)
def qI (A : Net) (C : List Int) (K i : Nat) : List Int := (List.range i).map fun c => A.inputs.getD (hd0 C K c).toNat 0
def qEk (A : Net) (C : List Int) (K i k : Nat) : Ends := qE A C K i ++ [(qRow A C K i).take k]
/-- The network of K classes. -/
def quoK (A : Net) (C : List Int) (K : Nat) : Net := ⟨qE A C K K, [], qI A C K K⟩
section
variable {A : Net} {C : List Int} {K i k : Nat}
theorem qE_len : (qE A C K i).length = i := by simp [qE]
theorem qI_len : (qI A C K i).length = i := by simp [qI]
theorem qE_succ : qE A C K i ++ [qRow A C K i] = qE A C K (i + 1) := by simp [qE, List.range_succ]
theorem qI_succ : qI A C K i ++ [A.inputs.getD (hd0 C K i).toNat 0] = qI A C K (i + 1) := by simp [qI, List.range_succ]
theorem qEk_len : (qEk A C K i k).length = i + 1 := by simp [qEk, qE_len]
theorem qEk_zero : qE A C K i ++ [[]] = qEk A C K i 0 := by simp [qEk]
theorem qEk_at {h : i < (qEk A C K i k).length} : (qEk A C K i k)[i] = (qRow A C K i).take k := by
  simp only [qEk]
  rw [List.getElem_append_right (by simp [qE_len])]; simp [qE_len]
theorem qEk_set {xs : List (Int × Int)} {k' : Nat} (h : xs = (qRow A C K i).take k') : (qEk A C K i k).set i xs = qEk A C K i k' := by
  subst h
  unfold qEk
  rw [List.set_append_right _ _ (by simp [qE_len])]; simp [qE_len]
theorem qEk_full (h : (qRow A C K i).length ≤ k) : qEk A C K i k = qE A C K (i + 1) := by unfold qEk; rw [List.take_of_length_le h, qE_succ]
theorem qRow_len (hv : (hd0 C K i).toNat < A.ends.length) : (qRow A C K i).length = A.ends[(hd0 C K i).toNat].length := by unfold qRow; rw [getD_eq hv]; simp
theorem qRow_take (hv : (hd0 C K i).toNat < A.ends.length) (hk : k < A.ends[(hd0 C K i).toNat].length) (hc : A.ends[(hd0 C K i).toNat][k].1.toNat < C.length) : (qRow A C K i).take k ++ [(C[A.ends[(hd0 C K i).toNat][k].1.toNat], A.ends[(hd0 C K i).toNat][k].2)] = (qRow A C K i).take (k + 1) := by
  have h : k < (qRow A C K i).length := by rw [qRow_len hv]; exact hk
  rw [List.take_succ_eq_append_getElem h]
  congr 2
  simp only [qRow, List.getElem_map, getD_eq hv, getD_eq hc]
end
theorem qRow_lenV {A : Net} {C : List Int} {K i v : Nat} (e : v = (hd0 C K i).toNat) (hv : v < A.ends.length) : (qRow A C K i).length = A.ends[v].length := by subst e; exact qRow_len hv
theorem qRow_takeV {A : Net} {C : List Int} {K i k v : Nat} (e : v = (hd0 C K i).toNat) (hv : v < A.ends.length) (hk : k < A.ends[v].length) (hc : A.ends[v][k].1.toNat < C.length) : (qRow A C K i).take k ++ [(C[A.ends[v][k].1.toNat], A.ends[v][k].2)] = (qRow A C K i).take (k + 1) := by subst e; exact qRow_take hv hk hc
/-- Where the classes make a network. -/
def QV (A : Net) (C : List Int) (K : Nat) : Prop := ((C.length : Int) = A.ends.length ∧ allR C 0 ((A.ends.length : Int) - 1) = true) ∧ (∀ c, c < K → 0 < ((fibs C K).getD c []).length) ∧ NOk (quoK A C K) ∧ IsPM A (quoK A C K) C
theorem totL_bd {α : Type} {xss : List (List α)} {B : Nat} (h : ∀ r ∈ xss, r.length ≤ B) : totL xss ≤ xss.length * (B + 1) := by
  unfold totL
  induction xss with
  | nil => simp
  | cons x r ih =>
    have h1 := ih fun y hy => h y (List.mem_cons_of_mem _ hy)
    have h2 := h x (List.mem_cons_self ..)
    simp only [List.length_cons, List.map_cons, List.sum_cons, Nat.add_mul, Nat.one_mul] at h1 ⊢
    omega
theorem NOk.six {n : Net} (h : NOk n) : ∀ r ∈ n.ends, r.length ≤ 6 := by
  intro r hr
  obtain ⟨v, hv, rfl⟩ := List.mem_iff_getElem.1 hr
  have := (h.rows v hv).1; omega
theorem NOk.tot {A : Net} (h : NOk A) : totN A ≤ 1048576 := by
  have h1 := totL_bd h.six
  have h2 := h.nodes
  have h3 := h.inLen
  have h4 : A.ids.length ≤ 40 := by
    rcases h.ids with h1 | h1
    · omega
    · have := h1.1; omega
  unfold totN; omega
theorem quo_tot {A : Net} {C : List Int} {K : Nat} (h : NOk A) (hK : K ≤ 40) : totN (quoK A C K) ≤ 1048576 := by
  have h1 : ∀ r ∈ (quoK A C K).ends, r.length ≤ 6 := by
    intro r hr
    obtain ⟨c, _, rfl⟩ := List.mem_map.1 (show r ∈ (List.range K).map (qRow A C K) from hr)
    unfold qRow
    by_cases hv : (hd0 C K c).toNat < A.ends.length
    · rw [getD_eq hv, List.length_map]; exact h.six _ (List.getElem_mem hv)
    · simp [List.getD, List.getElem?_eq_none (Nat.le_of_not_lt hv)]
  have h2 := totL_bd h1
  have h3 : (quoK A C K).ends.length = K := qE_len
  have h4 : (quoK A C K).inputs.length = K := qI_len
  have h5 : (quoK A C K).ids.length = 0 := rfl
  unfold totN; omega
theorem NAcc.rowOpen {l r : Nat} {w : World} {E F I : TypeId} {vs : List (Option Addr × Nat)} {h : NA} {A : Net} (x : NAcc l r w E F I vs h A) {i : Nat} (h1 : i < vs.length) (h2 : i < A.ends.length) :
    ∃ g rest, h.a1 = some ⟨g, 0, none⟩ ∧ l ≤ g ∧ g < r ∧ Blk w g F (((vs.zip A.ends).map fun p => rowVal p.1 p.2) ++ rest) ∧ (A.ends.length ≤ h.c1 ∧ h.c1 ≤ maxLen ∧ (((vs.zip A.ends).map fun p => rowVal p.1 p.2) ++ rest).length = h.c1 * 1) ∧ OwnH l r 0 0 w E 2 vs[i].1 A.ends[i].length vs[i].2 (pairCells A.ends[i]) ∧ ∀ q, vs[i].1 = some q → l ≤ q.block ∧ q.block < r ∧ q.block ≠ g := by
  have hl := x.rows.len
  obtain ⟨g, rest, ha, hg, hB, k1, k2, k3, k4⟩ := x.rows.out.open (by simp [hl]; omega)
  have ho := x.rows.row i h1 h2
  refine ⟨g, rest, ha, hg, x.rows.otop _ ha, hB, ⟨k1, k2, k3⟩, ⟨ho, fun q hq => ⟨x.rows.top i h1 q hq, .inr (Nat.zero_le _)⟩⟩, fun q hq => ⟨(ho.block q hq).1, x.rows.top i h1 q hq, Ne.symm (x.rows.osep i h1 _ q ha hq)⟩⟩
/-- A row was appended to, and what it is now was stored. -/
theorem NAcc.rowGrow {l r : Nat} {w0 w1 w2 : World} {E F I T : TypeId} {vs : List (Option Addr × Nat)} {h : NA} {A : Net} (x : NAcc l r w0 E F I vs h A) {i : Nat} (h1 : i < vs.length) (h2 : i < A.ends.length) {g j : Nat} {rest ds : List Value} (ha : h.a1 = some ⟨g, 0, none⟩) (hg : l ≤ g ∧ g < r)
    (hc : A.ends.length ≤ h.c1 ∧ h.c1 ≤ maxLen ∧ (((vs.zip A.ends).map fun p => rowVal p.1 p.2) ++ rest).length = h.c1 * 1) {a' : Option Addr} {c' n' : Nat} {ys : List (Int × Int)} (k : Apd w0 w1 vs[i].1) (o : Own l w1 E 2 a' n' c' (pairCells ys)) (hn : n' = ys.length)
    (fr : ∀ q, a' = some q → (∃ p, vs[i].1 = some p ∧ q.block = p.block) ∨ w0.heap.size ≤ q.block) (hr : r ≤ w0.heap.size) (s : Sto w1 w2 g T ds) (hB : Blk w2 g F ((((vs.zip A.ends).map fun p => rowVal p.1 p.2) ++ rest).set j (.slice a' n' c'))) (hj : j = i) : NAcc l w2.heap.size w2 E F I (vs.set i (a', c')) h ⟨A.ends.set i ys, A.ids, A.inputs⟩ := by
  subst hj; subst hn
  have hl := x.rows.len
  have hks := k.size
  have hss := s.size
  have hsep : ∀ q, vs[j].1 = some q → q.block ≠ g := fun q hq => Ne.symm (x.rows.osep j h1 _ q ha hq)
  have hng : ∀ q, a' = some q → q.block ≠ g := fun q hq => by
    rcases fr q hq with ⟨p, hp, e⟩ | hge
    · rw [e]; exact hsep p hp
    · omega
  refine x.replace h1 ?_ ?_ (o.keep s.keep hng) (fun q hq => (fr q hq).imp id fun e => by omega) (by omega) (fun q hq => by have := (o.block q hq).2; omega)
  · refine Keep.trans (k.mono fun b hb => ⟨by have := hb.1; omega, hb.2.2⟩) (s.keep.mono fun b hb => ?_)
    have := hb.2.1 _ ha
    exact this
  · rw [ha]
    rw [List.set_append_left _ _ (by simp [hl]; omega)] at hB
    exact Own.of_front hB hg.1 hc.1 hc.2.1 (by have := hc.2.2; simpa using this) (by simp [hl])

set_option maxHeartbeats 1000000 in
set_option maxRecDepth 100000 in
theorem quotient_spec {loA hiA : Nat} (nA : NA) (A : Net) {loC hiC : Nat} (aC : Option Addr) (cC : Nat) (C : List Int) (w : World) (hA : IsNet loA hiA w nA A) (hhiA : hiA ≤ w.heap.size) (hnA : totN A ≤ 1048576) (hC : Ints loC hiC w aC cC C) (hhiC : hiC ≤ w.heap.size) (hnC : C.length ≤ 1048576) (hkA : NOk A) :
    Fn Try.prog 43 #[netV nA A, .slice aC C.length cC] w (fun o9 w' => ∃ h' U q, o9 = .tuple #[netV h' U, VB q] ∧ RV (⟨[], [], []⟩ : Net) (opt (QV A C (lmax C + 1).toNat) (quoK A C (lmax C + 1).toNat)) U q ∧ OwnNet w.heap.size w'.heap.size w' 71 3 h' U ∧ totN U ≤ 1048576 ∧ Ext w w') := by
  have hqA := totL_len A.ends
  have hmA : totL A.ends + A.ids.length + A.inputs.length ≤ 1048576 := hnA
  have hndA := hkA.nodes
  have hinA := hkA.inLen
  have hE := Ext.refl w
  refine Fn_of Try.func43 rfl rfl (by kernel_rfl) rfl ?_
  refine W_seq ?_
  refine W_region ?_
  refine WL_m rfl (ev_box rfl) ?_
  rintro _ w2 ⟨rfl, hN2⟩
  have hz2 := hN2.size
  replace hE := hE.trans hN2.ext
  replace hA := hA.ext hN2.ext
  replace hC := hC.ext hN2.ext
  have hB2 : Blk w2 _ _ [_, _, _] := hN2.blk
  refine WL_m rfl (ev_alloc zr29) ?_
  rintro _ w4 ⟨rfl, hN4⟩
  have hz4 := hN4.size
  replace hE := hE.trans hN4.ext
  replace hA := hA.ext hN4.ext
  replace hC := hC.ext hN4.ext
  replace hB2 := hB2.ext hN4.ext
  have hB4 : Blk w4 _ _ [_, _, _] := hN4.blk
  refine WL_q rfl (ev_assign rfl) ?_
  refine WL_nil ?_
  refine thenE_n ?_
  refine W_seq ?_
  refine W_seq ?_
  refine W_region ?_
  refine WL_q rfl (ev_move rfl) ?_
  refine WL_q rfl (ev_len Try.underlying23 rfl) ?_
  refine WL_q rfl (ev_fieldAddr fo29_0 rfl) ?_
  refine WL_q rfl (ev_load one27 rfl (hB2.cell rfl)) ?_
  refine WL_q rfl (ev_len Try.underlying27 rfl) ?_
  refine WL_q rfl (ev_neq rfl rfl) ?_
  refine WL_q rfl (ev_move rfl) ?_
  refine WL_splitv (t := 17) rfl (fun hg16 => ?_) (fun hg16 => ?_)
  · have hp16 := of_decide_eq_true hg16
    refine WL_no rfl rfl hg16 rfl ?_
    refine WL_no rfl rfl hg16 rfl ?_
    refine WL_no rfl rfl hg16 rfl ?_
    refine WL_no rfl rfl hg16 rfl ?_
    refine WL_no rfl rfl hg16 rfl ?_
    refine WL_no rfl rfl hg16 rfl ?_
    refine WL_no rfl rfl hg16 rfl ?_
    refine WL_q rfl (ev_pick_t rfl hg16 rfl) ?_
    refine WL_nil ?_
    refine thenE_n ?_
    refine W_cond_t rfl ?_
    refine W_seq ?_
    refine W_region ?_
    refine WL_q rfl (ev_buildP0 sn29_3 zr29 ) ?_
    refine WL_s (ev_stores sz29 rfl rfl rfl (by simp [Value.oneCell']) hB4 (by simp)) ?_
    rintro _ w2_1 hS2_1
    have hz2_1 := hS2_1.size
    replace hE := hE.sto hS2_1 (by omega)
    replace hA := hA.sto hS2_1 (by omega)
    replace hC := hC.sto hS2_1 (by omega)
    replace hB2 := hB2.sto hS2_1 (by omega)
    replace hB4 : Blk w2_1 _ _ [_, _, _] := hS2_1.blk
    refine WL_q rfl (ev_assign rfl) ?_
    refine WL_nil ?_
    refine thenE_n ?_
    refine W_ret ?_
    refine thenE_r ?_
    refine retc2 rfl rfl st29 sz29 (cellsB hB4) rfl rfl ?_
    first | (exact ⟨⟨none, 0, none, 0, none, 0⟩, ⟨[], [], []⟩, _, rfl, .no (fun h => hp16 h.1.1), OwnNet.nil, by decide, hE⟩) | (exact ⟨⟨none, 0, none, 0, none, 0⟩, ⟨[], [], []⟩, _, rfl, .no (fun h => tf hg23 h.1.2), OwnNet.nil, by decide, hE⟩) | (refine ⟨⟨none, 0, none, 0, none, 0⟩, ⟨[], [], []⟩, _, rfl, .no (fun h => ?_), OwnNet.nil, by decide, hE⟩; simp only [Int.toNat_natCast] at h; have h9 := h.2.1 i (by omega); rw [getD_eq hlf] at h9; omega) | (refine ⟨⟨none, 0, none, 0, none, 0⟩, ⟨[], [], []⟩, _, rfl, .no (fun h => ?_), OwnNet.nil, by decide, hE⟩; simp only [Int.toNat_natCast] at h; exact hp92 h.2.2.1) | (refine ⟨⟨none, 0, none, 0, none, 0⟩, ⟨[], [], []⟩, _, rfl, .no (fun h => ?_), OwnNet.nil, by decide, hE⟩; simp only [Int.toNat_natCast] at h; exact hp98 h.2.2.2) | (refine ⟨⟨a, c, none, 0, a3, c3⟩, quoK A C i, _, rfl, ?_, OwnNet.up ⟨_, _, hN⟩ (by omega) (by omega), quo_tot hkA (by omega), hE⟩; rw [Int.toNat_natCast]; exact .yes ⟨⟨by omega, hg23⟩, fun x hx => hJ x hx, hp92, hp98⟩ rfl)
  · have hp16 := of_decide_eq_false hg16
    refine WL_qg rfl rfl hg16 rfl (ev_move rfl) ?_
    refine WL_qg rfl rfl hg16 rfl (ev_fieldAddr fo29_0 rfl) ?_
    refine WL_qg rfl rfl hg16 rfl (ev_load one27 rfl (hB2.cell rfl)) ?_
    refine WL_qg rfl rfl hg16 rfl (ev_len Try.underlying27 rfl) ?_
    refine WL_qg rfl rfl hg16 rfl (ev_sub rfl rfl (by omega)) ?_
    refine WL_mg rfl rfl hg16 rfl (ev_call rfl (allWithin_spec _ _ C _ _ _ hC (by omega))) ?_
    rintro _ w23 ⟨rfl, hE23⟩
    have hz23 := hE23.size
    replace hE := hE.trans hE23
    replace hA := hA.ext hE23
    replace hC := hC.ext hE23
    replace hB2 := hB2.ext hE23
    replace hB4 := hB4.ext hE23
    refine WL_qg rfl rfl hg16 rfl (ev_not rfl) ?_
    refine WL_q rfl (ev_pick_f rfl hg16 rfl) ?_
    refine WL_nil ?_
    refine thenE_n ?_
    refine W_cond rfl (fun hg24 => ?_) (fun hg24 => ?_)
    · have hg23 := not_true hg24
      refine W_seq ?_
      refine W_region ?_
      refine WL_q rfl (ev_buildP0 sn29_3 zr29 ) ?_
      refine WL_s (ev_stores sz29 rfl rfl rfl (by simp [Value.oneCell']) hB4 (by simp)) ?_
      rintro _ w2_1 hS2_1
      have hz2_1 := hS2_1.size
      replace hE := hE.sto hS2_1 (by omega)
      replace hA := hA.sto hS2_1 (by omega)
      replace hC := hC.sto hS2_1 (by omega)
      replace hB2 := hB2.sto hS2_1 (by omega)
      replace hB4 : Blk w2_1 _ _ [_, _, _] := hS2_1.blk
      refine WL_q rfl (ev_assign rfl) ?_
      refine WL_nil ?_
      refine thenE_n ?_
      refine W_ret ?_
      refine thenE_r ?_
      refine retc2 rfl rfl st29 sz29 (cellsB hB4) rfl rfl ?_
      first | (exact ⟨⟨none, 0, none, 0, none, 0⟩, ⟨[], [], []⟩, _, rfl, .no (fun h => hp16 h.1.1), OwnNet.nil, by decide, hE⟩) | (exact ⟨⟨none, 0, none, 0, none, 0⟩, ⟨[], [], []⟩, _, rfl, .no (fun h => tf hg23 h.1.2), OwnNet.nil, by decide, hE⟩) | (refine ⟨⟨none, 0, none, 0, none, 0⟩, ⟨[], [], []⟩, _, rfl, .no (fun h => ?_), OwnNet.nil, by decide, hE⟩; simp only [Int.toNat_natCast] at h; have h9 := h.2.1 i (by omega); rw [getD_eq hlf] at h9; omega) | (refine ⟨⟨none, 0, none, 0, none, 0⟩, ⟨[], [], []⟩, _, rfl, .no (fun h => ?_), OwnNet.nil, by decide, hE⟩; simp only [Int.toNat_natCast] at h; exact hp92 h.2.2.1) | (refine ⟨⟨none, 0, none, 0, none, 0⟩, ⟨[], [], []⟩, _, rfl, .no (fun h => ?_), OwnNet.nil, by decide, hE⟩; simp only [Int.toNat_natCast] at h; exact hp98 h.2.2.2) | (refine ⟨⟨a, c, none, 0, a3, c3⟩, quoK A C i, _, rfl, ?_, OwnNet.up ⟨_, _, hN⟩ (by omega) (by omega), quo_tot hkA (by omega), hE⟩; rw [Int.toNat_natCast]; exact .yes ⟨⟨by omega, hg23⟩, fun x hx => hJ x hx, hp92, hp98⟩ rfl)
    · have hg23 := not_false hg24
      refine W_skip ?_
      refine thenE_n ?_
      refine W_seq ?_
      refine W_region ?_
      refine WL_m rfl (ev_alloc zr29) ?_
      rintro _ w6 ⟨rfl, hN6⟩
      have hz6 := hN6.size
      replace hE := hE.trans hN6.ext
      replace hA := hA.ext hN6.ext
      replace hC := hC.ext hN6.ext
      replace hB2 := hB2.ext hN6.ext
      replace hB4 := hB4.ext hN6.ext
      have hB6 : Blk w6 _ _ [_, _, _] := hN6.blk
      refine WL_nil ?_
      refine thenE_n ?_
      refine W_seq ?_
      refine W_seq ?_
      refine W_region ?_
      refine WL_q rfl (ev_move rfl) ?_
      refine WL_q rfl (ev_move rfl) ?_
      have hrC := allR_true.1 hg23
      have hC0 : 0 < C.length := by omega
      have hge := lmax_ge hC0 (fun x hx => (hrC x hx).1)
      have hle := lmax_le (m := 39) (by omega) (fun x hx => by have := hrC x hx; omega)
      refine WL_m rfl (ev_call rfl (classCount_spec _ _ C _ rfl hC (by omega) (by omega) (fun x hx => by have := hrC x hx; omega))) ?_
      rintro _ w29 ⟨rfl, hE29⟩
      have hz29 := hE29.size
      replace hE := hE.trans hE29
      replace hA := hA.ext hE29
      replace hC := hC.ext hE29
      replace hB2 := hB2.ext hE29
      replace hB4 := hB4.ext hE29
      replace hB6 := hB6.ext hE29
      obtain ⟨K, hK, hKt⟩ : ∃ K : Nat, lmax C + 1 = (K : Int) ∧ (lmax C + 1).toNat = K := ⟨(lmax C + 1).toNat, by omega, rfl⟩
      rw [hK]
      refine WL_m rfl (ev_call rfl (fibres_spec _ _ C K _ hC (by omega) (fun x hx => ⟨(hrC x hx).1, by have := lmax_of_mem hx; omega⟩) (by omega) (by omega))) ?_
      rintro _ w30 ⟨b30, rfl, hR30, hE30⟩
      have hz30 := hE30.size
      replace hE := hE.trans hE30
      replace hA := hA.ext hE30
      replace hC := hC.ext hE30
      replace hB2 := hB2.ext hE30
      replace hB4 := hB4.ext hE30
      replace hB6 := hB6.ext hE30
      have hI30 := hR30.is (c := K) (by have := fibs_len C K; omega)
      have hfl := fibs_len C K
      refine WL_q rfl (ev_len Try.underlying43 rfl) ?_
      refine WL_q rfl (ev_move rfl) ?_
      refine WL_nil ?_
      refine thenE_n ?_
      refine W_block ?_
      refine W_loopC (G := Nat × Option Addr × Nat × Option Addr × Nat × List (Option Addr × Nat)) [(1, _), (2, _), (4, _), (6, _), (30, _), (31, _)] ((Subs.c rfl (Subs.c rfl (Subs.c rfl (Subs.c rfl (Subs.c rfl (Subs.c rfl Subs.n))))))) (fun ⟨i, a, c, a3, c3, vs⟩ => [(32, VI (i : Int))]) (fun ⟨i, a, c, a3, c3, vs⟩ w' => KX (w23.heap.size) w30 w' ∧ i ≤ K ∧ Blk w' w23.heap.size 29 [.slice a (qE A C K i).length c, .slice none 0 0, .slice a3 (qI A C K i).length c3] ∧ NAcc w30.heap.size w'.heap.size w' 71 69 3 vs ⟨a, c, none, 0, a3, c3⟩ ⟨qE A C K i, [], qI A C K i⟩ ∧ ∀ j, j < i → 0 < ((fibs C K).getD j []).length) (fun g => K - g.1) (0, none, 0, none, 0, []) ((Subs.c (lkI rfl (by omega)) Subs.n)) (⟨KX.refl _ _, ⟨Nat.zero_le _, hB6, NAcc.nil, fun j hj => absurd hj (Nat.not_lt_zero _)⟩⟩) ?_
      rintro ⟨i, a, c, a3, c3, vs⟩ wL0 ⟨hRL0, hi', hB6, hN, hJ⟩
      have hzL0 := hRL0.size
      replace hA := hA.kx hRL0 (by omega)
      replace hC := hC.kx hRL0 (by omega)
      replace hB2 := hB2.kx hRL0 (by omega)
      replace hB4 := hB4.kx hRL0 (by omega)
      replace hI30 := hI30.kx hRL0 (by omega)
      replace hE := hE.kx hRL0 (by omega)
      refine W_seq ?_
      refine W_region ?_
      refine WL_q rfl (ev_lss rfl rfl) ?_
      refine WL_nil ?_
      refine thenE_n ?_
      refine W_seq ?_
      refine W_cond rfl (fun hg33 => ?_) (fun hg33 => ?_)
      · have hp33 := of_decide_eq_true hg33
        refine W_skip ?_
        refine thenE_n ?_
        refine W_seq ?_
        refine W_block ?_
        refine W_seq ?_
        refine W_region ?_
        have hlf : i < (fibs C K).length := by omega
        have hqEl := qE_len (A := A) (C := C) (K := K) (i := i)
        have hqIl := qI_len (A := A) (C := C) (K := K) (i := i)
        have hfr := fibs_row hlf
        refine WL_q rfl (ev_move rfl) ?_
        have hl35 : i < (fibs C K).length := by omega
        have ht35 := totL_le hl35
        obtain ⟨a35, c35, hc35, hr35⟩ := hI30.row hl35
        refine WL_q rfl (ev_indexAddr Try.underlying43 sz23 rfl rfl (hI30.isSome (by omega)) (by omega) (by omega)) ?_
        refine WL_q rfl (ev_load one23 rfl (hc35)) ?_
        refine WL_q rfl (ev_assign rfl) ?_
        refine WL_q rfl (ev_assign rfl) ?_
        refine WL_nil ?_
        refine thenE_n ?_
        refine W_seq ?_
        refine W_seq ?_
        refine W_region ?_
        refine WL_q rfl (ev_move rfl) ?_
        refine WL_q rfl (ev_len Try.underlying23 rfl) ?_
        refine WL_q rfl (ev_eql rfl rfl) ?_
        refine WL_nil ?_
        refine thenE_n ?_
        refine W_cond rfl (fun hg39 => ?_) (fun hg39 => ?_)
        · have hp39 := of_decide_eq_true hg39
          refine W_seq ?_
          refine W_region ?_
          refine WL_q rfl (ev_buildP0 sn29_3 zr29 ) ?_
          refine WL_s (ev_stores sz29 rfl rfl rfl (by simp [Value.oneCell']) hB4 (by simp)) ?_
          rintro _ w8_1 hS8_1
          have hz8_1 := hS8_1.size
          replace hE := hE.sto hS8_1 (by omega)
          replace hA := hA.sto hS8_1 (by omega)
          replace hC := hC.sto hS8_1 (by omega)
          replace hB2 := hB2.sto hS8_1 (by omega)
          replace hI30 := hI30.sto hS8_1 (by omega)
          replace hB6 := hB6.sto hS8_1 (by omega)
          replace hN := hN.sto hS8_1 (by omega)
          replace hr35 := hr35.sto hS8_1 (by omega)
          replace hB4 : Blk w8_1 _ _ [_, _, _] := hS8_1.blk
          refine WL_q rfl (ev_assign rfl) ?_
          refine WL_nil ?_
          refine thenE_n ?_
          refine W_ret ?_
          refine thenE_r ?_
          refine blockE_r ?_
          refine thenE_r ?_
          refine thenE_r ?_
          refine blockE_r ?_
          refine thenE_r ?_
          refine retc2 rfl rfl st29 sz29 (cellsB hB4) rfl rfl ?_
          first | (exact ⟨⟨none, 0, none, 0, none, 0⟩, ⟨[], [], []⟩, _, rfl, .no (fun h => hp16 h.1.1), OwnNet.nil, by decide, hE⟩) | (exact ⟨⟨none, 0, none, 0, none, 0⟩, ⟨[], [], []⟩, _, rfl, .no (fun h => tf hg23 h.1.2), OwnNet.nil, by decide, hE⟩) | (refine ⟨⟨none, 0, none, 0, none, 0⟩, ⟨[], [], []⟩, _, rfl, .no (fun h => ?_), OwnNet.nil, by decide, hE⟩; simp only [Int.toNat_natCast] at h; have h9 := h.2.1 i (by omega); rw [getD_eq hlf] at h9; omega) | (refine ⟨⟨none, 0, none, 0, none, 0⟩, ⟨[], [], []⟩, _, rfl, .no (fun h => ?_), OwnNet.nil, by decide, hE⟩; simp only [Int.toNat_natCast] at h; exact hp92 h.2.2.1) | (refine ⟨⟨none, 0, none, 0, none, 0⟩, ⟨[], [], []⟩, _, rfl, .no (fun h => ?_), OwnNet.nil, by decide, hE⟩; simp only [Int.toNat_natCast] at h; exact hp98 h.2.2.2) | (refine ⟨⟨a, c, none, 0, a3, c3⟩, quoK A C i, _, rfl, ?_, OwnNet.up ⟨_, _, hN⟩ (by omega) (by omega), quo_tot hkA (by omega), hE⟩; rw [Int.toNat_natCast]; exact .yes ⟨⟨by omega, hg23⟩, fun x hx => hJ x hx, hp92, hp98⟩ rfl)
        · have hp39 := of_decide_eq_false hg39
          refine W_skip ?_
          refine thenE_n ?_
          refine W_seq ?_
          refine W_region ?_
          refine WL_q rfl (ev_fieldAddr fo29_0 rfl) ?_
          refine WL_q rfl (ev_load one27 rfl (hB6.cell rfl)) ?_
          have hf0 : 0 < (fibs C K)[i].length := by omega
          obtain ⟨hf1, hf2⟩ := fibs_at hlf hf0
          have hf3 := hd0_at hlf hf0
          have hf5 : (((fibs C K)[i][0])).toNat < A.ends.length := by omega
          refine WL_m rfl (ev_lit1 Try.underlying27 el69 (by decide) (by decide) rfl rfl) ?_
          rintro _ w43 ⟨rfl, hN43⟩
          have hz43 := hN43.size
          replace hE := hE.trans hN43.ext
          replace hRL0 := hRL0.trans hN43.ext
          replace hA := hA.ext hN43.ext
          replace hC := hC.ext hN43.ext
          replace hB2 := hB2.ext hN43.ext
          replace hB4 := hB4.ext hN43.ext
          replace hI30 := hI30.ext hN43.ext
          replace hB6 := hB6.ext hN43.ext
          replace hN := hN.ext hN43.ext
          replace hr35 := hr35.ext hN43.ext
          have hB43 := hN43.blk
          have hP44 := hN.rows.out
          refine WL_m rfl (ev_append Try.underlying27 el69 rfl (by decide) rfl rfl hP44 (SAt.of_blk (cs := [_]) (ds := []) hB43) rfl (by simp [Value.oneCell']) (by omega) (by unfold maxLen; omega) (by omega)) ?_
          rintro _ w44 ⟨a44, c44, rfl, hO44, hK44, hQ44⟩
          have hz44 := hK44.size
          replace hE := hE.app hK44 (fun q hq => by have := (hP44.block q hq).1; omega)
          replace hRL0 := hRL0.app hK44 (fun q hq => by have := (hP44.block q hq).1; omega)
          replace hA := hA.app hK44 (hP44) (by omega)
          replace hC := hC.app hK44 (hP44) (by omega)
          replace hB2 := hB2.app hK44 (hP44) (by omega)
          replace hB4 := hB4.app hK44 (hP44) (by omega)
          replace hI30 := hI30.app hK44 (hP44) (by omega)
          replace hB6 := hB6.app hK44 (hP44) (by omega)
          replace hr35 := hr35.app hK44 (hP44) (by omega)
          have hP44 := hO44
          replace hN := hN.snocRow (a2 := none) (c2 := 0) (ys := []) (Own.nil _ _ _ _) (fun q hq => by cases hq) hK44 hO44 rfl hQ44 (by omega)
          replace hN := hN.to (show _ = (⟨qEk A C K i 0, [], qI A C K i⟩ : Net) by rw [← qEk_zero])
          refine WL_q rfl (ev_fieldAddr fo29_0 rfl) ?_
          refine WL_s (ev_store sz27 rfl rfl rfl hB6 (by simp)) ?_
          rintro _ w9_5 hS9_5
          have hz9_5 := hS9_5.size
          replace hE := hE.sto hS9_5 (by omega)
          replace hRL0 := hRL0.sto hS9_5 (by omega)
          replace hA := hA.sto hS9_5 (by omega)
          replace hC := hC.sto hS9_5 (by omega)
          replace hB2 := hB2.sto hS9_5 (by omega)
          replace hB4 := hB4.sto hS9_5 (by omega)
          replace hI30 := hI30.sto hS9_5 (by omega)
          replace hr35 := hr35.sto hS9_5 (by omega)
          replace hN := hN.sto hS9_5 (by omega)
          replace hB6 : Blk w9_5 _ _ [_, _, _] := hS9_5.blk
          rw [show (qE A C K i).length + 1 = (qEk A C K i 0).length by rw [qEk_len, qE_len]] at hB6
          refine WL_nil ?_
          refine thenE_n ?_
          refine W_seq ?_
          refine W_drawZ 12 w30.heap.size w44.heap.size 0 0 (fun w' => True) [(0, true), (1, true), (2, true), (3, true), (4, true), (5, true), (6, true), (7, true), (8, true), (9, false), (10, false), (11, true), (12, false)] mixed (by kernel_rfl) rfl (by kernel_rfl) (fun _ _ => trivial) ?_
          intro wd10 hEd10 hzd10
          replace hE := hE.trans hEd10
          replace hRL0 := hRL0.trans hEd10
          replace hA := hA.ext hEd10
          replace hC := hC.ext hEd10
          replace hB2 := hB2.ext hEd10
          replace hB4 := hB4.ext hEd10
          replace hI30 := hI30.ext hEd10
          replace hB6 := hB6.ext hEd10
          replace hr35 := hr35.ext hEd10
          replace hN := hN.ext hEd10
          have hDd10 := (Rg.refl : Rg w30.heap.size w44.heap.size 0 0 wd10 wd10)
          refine PZ_q rfl rfl rfl (fun wq hq => ev_fieldAddr fo29_2 rfl) ?_
          refine PZ_q rfl rfl rfl (fun wq hq => ev_load one23 rfl ((hB6.rg hq.1 (by omega)).cell rfl)) ?_
          refine PZ_q rfl rfl rfl (fun wq hq => ev_fieldAddr fo29_2 rfl) ?_
          refine PZ_q rfl rfl rfl (fun wq hq => ev_load one23 rfl ((hB2.rg hq.1 (by omega)).cell rfl)) ?_
          refine PZ_q rfl rfl rfl (fun wq hq => ev_move rfl) ?_
          refine PZ_q rfl rfl rfl (fun wq hq => ev_indexAddr Try.underlying23 sz3 rfl rfl (hr35.isSome (by omega)) (by omega) (by omega)) ?_
          refine PZ_q rfl rfl rfl (fun wq hq => ev_load one3 rfl ((hr35.rg hq.1 (by omega)).cellJ (i := 0) (j := Int.toNat ((0 : Nat) : Int)) (by omega) (by omega))) ?_
          refine PZ_q rfl rfl rfl (fun wq hq => ev_indexAddr Try.underlying23 sz3 rfl rfl (hA.inputs.isSome (by omega)) (by omega) (by omega)) ?_
          refine PZ_q rfl rfl rfl (fun wq hq => ev_load one3 rfl ((hA.inputs.rg hq.1 (by omega)).cellJ (i := ((fibs C K)[i][0]).toNat) (j := ((fibs C K)[i][0]).toNat) (by omega) (by omega))) ?_
          refine PZ_m rfl rfl rfl (ev_lit1 Try.underlying23 el3 (by decide) (by decide) rfl rfl) ?_
          rintro _ w55 ⟨rfl, hN55⟩
          have hz55 := hN55.size
          replace hE := hE.trans hN55.ext
          replace hRL0 := hRL0.trans hN55.ext
          replace hDd10 := hDd10.trans hN55.ext
          replace hN := hN.ext hN55.ext
          have hB55 := hN55.blk
          refine ⟨⟨hDd10, trivial⟩, ?_⟩
          have hA_10 := hA.rg hDd10 (by omega)
          have hC_10 := hC.rg hDd10 (by omega)
          have hB2_10 := hB2.rg hDd10 (by omega)
          have hB4_10 := hB4.rg hDd10 (by omega)
          have hI30_10 := hI30.rg hDd10 (by omega)
          have hB6_10 := hB6.rg hDd10 (by omega)
          have hr35_10 := hr35.rg hDd10 (by omega)
          have hP56 := hN.inp.1
          refine PZ_m rfl rfl rfl (ev_append Try.underlying23 el3 rfl (by decide) rfl rfl hP56 (SAt.of_blk (cs := [_]) (ds := []) hB55) rfl (by simp [Value.oneCell']) (by omega) (by unfold maxLen; omega) (by omega)) ?_
          rintro _ w56 ⟨a56, c56, rfl, hO56, hK56, hQ56⟩
          have hz56 := hK56.size
          replace hE := hE.app hK56 (fun q hq => by have h1 := (hP56.block q hq).1; have h2 := (hN.inp.2 q hq).1; omega)
          replace hRL0 := hRL0.app hK56 (fun q hq => by have h1 := (hP56.block q hq).1; have h2 := (hN.inp.2 q hq).1; omega)
          replace hDd10 := hDd10.app hK56 (fun q hq => by have h1 := (hP56.block q hq).1; have h2 := (hN.inp.2 q hq).1; omega)
          have hP56 := hO56
          replace hN := hN.snocInp hK56 hO56 rfl hQ56 (by omega)
          refine ⟨⟨hDd10, trivial⟩, ?_⟩
          refine PZ_q rfl rfl rfl (fun wq hq => ev_fieldAddr fo29_2 rfl) ?_
          replace hA := hA.rg hDd10 (by omega)
          replace hC := hC.rg hDd10 (by omega)
          replace hB2 := hB2.rg hDd10 (by omega)
          replace hB4 := hB4.rg hDd10 (by omega)
          replace hI30 := hI30.rg hDd10 (by omega)
          replace hB6 := hB6.rg hDd10 (by omega)
          replace hr35 := hr35.rg hDd10 (by omega)
          refine PZ_z rfl (ev_store sz23 rfl rfl rfl hB6 (by simp)) ?_
          rintro _ w10_12 hS10_12
          have hz10_12 := hS10_12.size
          replace hE := hE.sto hS10_12 (by omega)
          replace hRL0 := hRL0.sto hS10_12 (by omega)
          replace hA := hA.sto hS10_12 (by omega)
          replace hC := hC.sto hS10_12 (by omega)
          replace hB2 := hB2.sto hS10_12 (by omega)
          replace hB4 := hB4.sto hS10_12 (by omega)
          replace hI30 := hI30.sto hS10_12 (by omega)
          replace hr35 := hr35.sto hS10_12 (by omega)
          replace hN := hN.sto hS10_12 (by omega)
          replace hB6 : Blk w10_12 _ _ [_, _, _] := hS10_12.blk
          refine PW_nil ?_
          refine thenE_n ?_
          refine W_seq ?_
          refine W_drawE [(0, true), (1, true), (2, true), (3, true), (4, true), (5, true), (6, true), (7, true), (8, true)] mixed (by kernel_rfl) rfl (by kernel_rfl) ?_
          intro wd11 hEd11 hzd11
          replace hE := hE.trans hEd11
          replace hRL0 := hRL0.trans hEd11
          replace hA := hA.ext hEd11
          replace hC := hC.ext hEd11
          replace hB2 := hB2.ext hEd11
          replace hB4 := hB4.ext hEd11
          replace hI30 := hI30.ext hEd11
          replace hB6 := hB6.ext hEd11
          replace hr35 := hr35.ext hEd11
          replace hN := hN.ext hEd11
          have hDd11 := Ext.refl wd11
          refine PW_q rfl rfl (fun wq hq => ev_fieldAddr fo29_0 rfl) ?_
          refine PW_q rfl rfl (fun wq hq => ev_load one27 rfl (hq.cell (hB2.cell rfl))) ?_
          refine PW_q rfl rfl (fun wq hq => ev_move rfl) ?_
          refine PW_q rfl rfl (fun wq hq => ev_indexAddr Try.underlying23 sz3 rfl rfl (hr35.isSome (by omega)) (by omega) (by omega)) ?_
          have hc62 := hr35.cell (i := 0) (by omega)
          refine PW_q rfl rfl (fun wq hq => ev_load one3 rfl (hq.cell (hc62))) ?_
          have hl63 : ((fibs C K)[i][0]).toNat < A.ends.length := by omega
          have ht63 := totL_le hl63
          obtain ⟨a63, c63, hc63, hr63⟩ := hA.ends.row hl63
          refine PW_q rfl rfl (fun wq hq => ev_indexAddr Try.underlying27 sz69 rfl rfl (hA.ends.isSome (by omega)) (by omega) (by omega)) ?_
          refine PW_q rfl rfl (fun wq hq => ev_load one69 rfl (hq.cell (hc63))) ?_
          refine PW_q rfl rfl (fun wq hq => ev_len Try.underlying69 rfl) ?_
          refine PW_q rfl rfl (fun wq hq => ev_move rfl) ?_
          refine PW_nil ?_
          refine thenE_n ?_
          refine W_block ?_
          replace hN := hN.to (show _ = (⟨qEk A C K i 0, [], qI A C K (i + 1)⟩ : Net) by rw [← qI_succ, ← hf3, getD_eq (show ((fibs C K)[i][0]).toNat < A.inputs.length by omega)])
          refine W_loopC (G := Nat × List (Option Addr × Nat)) [(1, _), (2, _), (4, _), (6, _), (7, _), (30, _), (31, _), (32, _), (64, _), (65, _)] ((Subs.c rfl (Subs.c rfl (Subs.c rfl (Subs.c rfl (Subs.c rfl (Subs.c rfl (Subs.c rfl (Subs.c rfl (Subs.c rfl (Subs.c rfl Subs.n))))))))))) (fun ⟨k, vs2⟩ => [(66, VI (k : Int))]) (fun ⟨k, vs2⟩ w' => Lo (w30.heap.size) wd11 w' ∧ k ≤ A.ends[((fibs C K)[i][0]).toNat].length ∧ NAcc w30.heap.size w'.heap.size w' 71 69 3 vs2 ⟨a44, c44, none, 0, a56, c56⟩ ⟨qEk A C K i k, [], qI A C K (i + 1)⟩) (fun g => A.ends[((fibs C K)[i][0]).toNat].length - g.1) (0, vs ++ [(none, 0)]) ((Subs.c (lkI rfl (by omega)) Subs.n)) (⟨Lo.refl (by omega), ⟨Nat.zero_le _, hN.up (by omega)⟩⟩) ?_
          rintro ⟨k, vs2⟩ wL2 ⟨hRL2, hk', hN⟩
          have hzL2 := hRL2.size
          replace hA := hA.lo hRL2 (by omega)
          replace hC := hC.lo hRL2 (by omega)
          replace hB2 := hB2.lo hRL2 (by omega)
          replace hB4 := hB4.lo hRL2 (by omega)
          replace hI30 := hI30.lo hRL2 (by omega)
          replace hB6 := hB6.lo hRL2 (by omega)
          replace hr35 := hr35.lo hRL2 (by omega)
          replace hr63 := hr63.lo hRL2 (by omega)
          replace hE := hE.lo hRL2 (by omega)
          replace hRL0 := hRL0.lo hRL2 (by omega)
          refine W_seq ?_
          refine W_region ?_
          refine WL_q rfl (ev_lss rfl rfl) ?_
          refine WL_nil ?_
          refine thenE_n ?_
          refine W_seq ?_
          refine W_cond rfl (fun hg67 => ?_) (fun hg67 => ?_)
          · have hp67 := of_decide_eq_true hg67
            refine W_skip ?_
            refine thenE_n ?_
            refine W_seq ?_
            refine W_block ?_
            refine W_seq ?_
            refine W_region ?_
            have hlk : k < A.ends[((fibs C K)[i][0]).toNat].length := by omega
            have hq0l := qEk_len (A := A) (C := C) (K := K) (i := i) (k := 0)
            have hqkl := qEk_len (A := A) (C := C) (K := K) (i := i) (k := k)
            have hen := hkA.endOk hf5 hlk
            have hq1 := hen.1
            have hq2 : A.ends[((fibs C K)[i][0]).toNat][k].1.toNat < C.length := by have := hen.2.1; omega
            have hfe := congrArg Int.toNat hf3
            have hrl := qRow_lenV (A := A) (C := C) (K := K) (i := i) hfe hf5
            have hvl : vs2.length = i + 1 := by rw [hN.rows.len, qEk_len]
            have hiv : i < vs2.length := by omega
            have hie : i < (qEk A C K i k).length := by rw [qEk_len]; omega
            have hat := qEk_at (A := A) (C := C) (K := K) (i := i) (k := k) (h := hie)
            obtain ⟨g, rest, hga, hgl, hgr, hBo, hcap, hOr, hsep⟩ := hN.rowOpen hiv hie
            have hga2 : a44 = some ⟨g, 0, none⟩ := hga
            subst hga2
            have e8 := rowsp_cell (rest := rest) hN.rows hiv hie
            obtain ⟨a8, ha8⟩ : ∃ a, vs2[i].1 = a := ⟨_, rfl⟩
            rw [ha8] at e8
            have hkl : ((qRow A C K i).take k).length = k := by rw [List.length_take]; omega
            have hkl2 : (qEk A C K i k)[i].length = k := by rw [hat, hkl]
            rw [hkl2] at e8
            refine WL_q rfl (ev_indexAddr Try.underlying69 sz71 rfl rfl (hr63.isSome (by omega)) (by omega) (by omega)) ?_
            refine WL_q rfl (ev_loads st71 sz71 rfl (hr63.cells (i := k) (by omega)) rfl) ?_
            refine WL_m rfl (ev_alloc zr71) ?_
            rintro _ w10 ⟨rfl, hN10⟩
            have hz10 := hN10.size
            replace hE := hE.trans hN10.ext
            replace hRL0 := hRL0.trans hN10.ext
            replace hRL2 := hRL2.trans hN10.ext
            replace hA := hA.ext hN10.ext
            replace hC := hC.ext hN10.ext
            replace hB2 := hB2.ext hN10.ext
            replace hB4 := hB4.ext hN10.ext
            replace hI30 := hI30.ext hN10.ext
            replace hB6 := hB6.ext hN10.ext
            replace hr35 := hr35.ext hN10.ext
            replace hr63 := hr63.ext hN10.ext
            replace hN := hN.ext hN10.ext
            replace hBo := hBo.ext hN10.ext
            replace hOr := hOr.ext hN10.ext
            have hB10 : Blk w10 _ _ [_, _] := hN10.blk
            refine WL_s (ev_stores sz71 rfl rfl rfl (by simp [Value.oneCell']) hB10 (by simp)) ?_
            rintro _ w13_3 hS13_3
            have hz13_3 := hS13_3.size
            replace hE := hE.sto hS13_3 (by omega)
            replace hRL0 := hRL0.sto hS13_3 (by omega)
            replace hRL2 := hRL2.sto hS13_3 (by omega)
            replace hA := hA.sto hS13_3 (by omega)
            replace hC := hC.sto hS13_3 (by omega)
            replace hB2 := hB2.sto hS13_3 (by omega)
            replace hB4 := hB4.sto hS13_3 (by omega)
            replace hI30 := hI30.sto hS13_3 (by omega)
            replace hB6 := hB6.sto hS13_3 (by omega)
            replace hr35 := hr35.sto hS13_3 (by omega)
            replace hr63 := hr63.sto hS13_3 (by omega)
            replace hN := hN.sto hS13_3 (by omega)
            replace hBo := hBo.sto hS13_3 (by omega)
            replace hOr := hOr.sto hS13_3 (by omega)
            replace hB10 : Blk w13_3 _ _ [_, _] := hS13_3.blk
            refine WL_nil ?_
            refine thenE_n ?_
            refine W_drawZ 19 w30.heap.size wL2.heap.size g (g + 1) (fun w' => True) [(0, true), (1, true), (2, true), (3, true), (4, true), (5, true), (6, true), (7, true), (8, true), (9, true), (10, true), (11, true), (12, true), (13, true), (14, true), (15, true), (16, false), (17, false), (18, true), (19, false)] mixed (by kernel_rfl) rfl (by kernel_rfl) (fun _ _ => trivial) ?_
            intro wd14 hEd14 hzd14
            replace hE := hE.trans hEd14
            replace hRL0 := hRL0.trans hEd14
            replace hRL2 := hRL2.trans hEd14
            replace hA := hA.ext hEd14
            replace hC := hC.ext hEd14
            replace hB2 := hB2.ext hEd14
            replace hB4 := hB4.ext hEd14
            replace hI30 := hI30.ext hEd14
            replace hB6 := hB6.ext hEd14
            replace hr35 := hr35.ext hEd14
            replace hr63 := hr63.ext hEd14
            replace hN := hN.ext hEd14
            replace hBo := hBo.ext hEd14
            replace hOr := hOr.ext hEd14
            replace hB10 := hB10.ext hEd14
            have hDd14 := (Rg.refl : Rg w30.heap.size wL2.heap.size g (g + 1) wd14 wd14)
            refine PZ_q rfl rfl rfl (fun wq hq => ev_fieldAddr fo29_0 rfl) ?_
            refine PZ_q rfl rfl rfl (fun wq hq => ev_load one27 rfl ((hB6.rg hq.1 (by omega)).cell rfl)) ?_
            refine PZ_q rfl rfl rfl (fun wq hq => ev_move rfl) ?_
            refine PZ_q rfl rfl rfl (fun wq hq => ev_fieldAddr fo29_0 rfl) ?_
            refine PZ_q rfl rfl rfl (fun wq hq => ev_load one27 rfl ((hB6.rg hq.1 (by omega)).cell rfl)) ?_
            refine PZ_q rfl rfl rfl (fun wq hq => ev_move rfl) ?_
            refine PZ_q rfl rfl rfl (fun wq hq => ev_indexAddr Try.underlying27 sz69 rfl rfl rfl (by omega) (by omega)) ?_
            refine PZ_q rfl rfl rfl (fun wq hq => ev_load one69 rfl (hq.1.cell' (hBo.cellAt e8 (by simp)) (by omega))) ?_
            refine PZ_q rfl rfl rfl (fun wq hq => ev_move rfl) ?_
            refine PZ_q rfl rfl rfl (fun wq hq => ev_fieldAddr fo71_0 rfl) ?_
            refine PZ_q rfl rfl rfl (fun wq hq => ev_load one3 rfl ((hB10.rg hq.1 (by omega)).cell rfl)) ?_
            refine PZ_q rfl rfl rfl (fun wq hq => ev_indexAddr Try.underlying23 sz3 rfl rfl (hC.isSome (by omega)) (by omega) (by omega)) ?_
            refine PZ_q rfl rfl rfl (fun wq hq => ev_load one3 rfl ((hC.rg hq.1 (by omega)).cellJ (i := (A.ends[((fibs C K)[i][0]).toNat][k].1).toNat) (j := (A.ends[((fibs C K)[i][0]).toNat][k].1).toNat) (by omega) (by omega))) ?_
            refine PZ_q rfl rfl rfl (fun wq hq => ev_fieldAddr fo71_1 rfl) ?_
            refine PZ_q rfl rfl rfl (fun wq hq => ev_load one3 rfl ((hB10.rg hq.1 (by omega)).cell rfl)) ?_
            refine PZ_q rfl rfl rfl (fun wq hq => ev_build2 sn71_2 rfl rfl rfl rfl) ?_
            refine PZ_m rfl rfl rfl (ev_lit1 Try.underlying69 el71 (by decide) (by decide) rfl rfl) ?_
            rintro _ w86 ⟨rfl, hN86⟩
            have hz86 := hN86.size
            replace hE := hE.trans hN86.ext
            replace hRL0 := hRL0.trans hN86.ext
            replace hRL2 := hRL2.trans hN86.ext
            replace hDd14 := hDd14.trans hN86.ext
            replace hN := hN.ext hN86.ext
            replace hOr := hOr.ext hN86.ext
            have hB86 := hN86.blk
            refine ⟨⟨hDd14, trivial⟩, ?_⟩
            have hA_17 := hA.rg hDd14 (by omega)
            have hC_17 := hC.rg hDd14 (by omega)
            have hB2_17 := hB2.rg hDd14 (by omega)
            have hB4_17 := hB4.rg hDd14 (by omega)
            have hI30_17 := hI30.rg hDd14 (by omega)
            have hB6_17 := hB6.rg hDd14 (by omega)
            have hr35_17 := hr35.rg hDd14 (by omega)
            have hr63_17 := hr63.rg hDd14 (by omega)
            have hBo_17 := hBo.rg hDd14 (by omega)
            have hB10_17 := hB10.rg hDd14 (by omega)
            have hN0 := hN
            have hOr1 := hOr.1
            rw [ha8, hkl2, hat] at hOr1
            refine PZ_m rfl rfl rfl (ev_append Try.underlying69 el71 rfl (by decide) rfl rfl hOr1 (SAt.of_blk (cs := [_, _]) (ds := []) hB86) rfl (by simp [Value.oneCell']) (by omega) (by unfold maxLen; omega) (by omega)) ?_
            rintro _ w87 ⟨a87, c87, rfl, hO87, hK87, hQ87⟩
            have hz87 := hK87.size
            replace hE := hE.app hK87 (fun q hq => by have := hsep q (ha8.trans hq); omega)
            replace hRL0 := hRL0.app hK87 (fun q hq => by have := hsep q (ha8.trans hq); omega)
            replace hRL2 := hRL2.app hK87 (fun q hq => by have := hsep q (ha8.trans hq); omega)
            replace hDd14 := hDd14.app hK87 (fun q hq => by have := hsep q (ha8.trans hq); omega)
            replace hOr1 := hO87
            refine ⟨⟨hDd14, trivial⟩, ?_⟩
            refine PZ_q rfl rfl rfl (fun wq hq => ev_indexAddr Try.underlying27 sz69 rfl rfl rfl (by omega) (by omega)) ?_
            replace hA := hA.rg hDd14 (by omega)
            replace hC := hC.rg hDd14 (by omega)
            replace hB2 := hB2.rg hDd14 (by omega)
            replace hB4 := hB4.rg hDd14 (by omega)
            replace hI30 := hI30.rg hDd14 (by omega)
            replace hB6 := hB6.rg hDd14 (by omega)
            replace hr35 := hr35.rg hDd14 (by omega)
            replace hr63 := hr63.rg hDd14 (by omega)
            replace hBo := hBo.rg hDd14 (by omega)
            replace hB10 := hB10.rg hDd14 (by omega)
            refine PZ_z rfl (ev_store sz69 rfl rfl rfl hBo (by simp; omega)) ?_
            rintro _ w14_19 hS14_19
            have hz14_19 := hS14_19.size
            replace hE := hE.sto hS14_19 (by omega)
            replace hRL0 := hRL0.sto hS14_19 (by omega)
            replace hRL2 := hRL2.sto hS14_19 (by omega)
            replace hA := hA.sto hS14_19 (by omega)
            replace hC := hC.sto hS14_19 (by omega)
            replace hB2 := hB2.sto hS14_19 (by omega)
            replace hB4 := hB4.sto hS14_19 (by omega)
            replace hI30 := hI30.sto hS14_19 (by omega)
            replace hB6 := hB6.sto hS14_19 (by omega)
            replace hr35 := hr35.sto hS14_19 (by omega)
            replace hr63 := hr63.sto hS14_19 (by omega)
            replace hB10 := hB10.sto hS14_19 (by omega)
            replace hBo := hS14_19.blk
            rw [← ha8] at hK87 hQ87
            have hN2 := hN0.rowGrow hiv hie hga ⟨hgl, hgr⟩ hcap hK87 (own_snocP hO87) (by rw [List.length_append, hkl]; rfl) hQ87 (by omega) hS14_19 hBo (by simp)
            refine PW_nil ?_
            refine blockE_n ?_
            refine thenE_n ?_
            refine W_region ?_
            refine WL_q rfl (ev_add rfl rfl (by omega)) ?_
            refine WL_q rfl (ev_move rfl) ?_
            refine WL_nil ?_
            refine thenE_n ?_
            exact ⟨(k + 1, vs2.set i (a87, c87)), (Subs.c rfl (Subs.c rfl (Subs.c rfl (Subs.c rfl (Subs.c rfl (Subs.c rfl (Subs.c rfl (Subs.c rfl (Subs.c rfl (Subs.c rfl Subs.n)))))))))), (Subs.c (lkI rfl (by omega)) Subs.n), ⟨hRL2, ⟨by omega, hN2.to (by rw [qEk_set (qRow_takeV hfe hf5 hlk hq2)])⟩⟩, by first | omega | (dsimp only; omega)⟩
          · have hp67 := of_decide_eq_false hg67
            refine W_exit ?_
            refine thenE_x ?_
            refine thenE_x ?_
            refine blockE_hit ?_
            refine blockE_n ?_
            refine thenE_n ?_
            refine W_region ?_
            refine WL_q rfl (ev_add rfl rfl (by omega)) ?_
            refine WL_q rfl (ev_move rfl) ?_
            refine WL_nil ?_
            refine thenE_n ?_
            have hkf : (qRow A C K i).length ≤ k := by rw [qRow_lenV (congrArg Int.toNat hf3) hf5]; omega
            rw [qEk_full hkf] at hN
            rw [show (qEk A C K i 0).length = (qE A C K (i + 1)).length by rw [qEk_len, qE_len], show (qI A C K i).length + 1 = (qI A C K (i + 1)).length by rw [qI_len, qI_len]] at hB6
            exact ⟨(i + 1, a44, c44, a56, c56, vs2), (Subs.c rfl (Subs.c rfl (Subs.c rfl (Subs.c rfl (Subs.c rfl (Subs.c rfl Subs.n)))))), (Subs.c (lkI rfl (by omega)) Subs.n), ⟨hRL0, ⟨by omega, hB6, hN.up (by omega), fun j hj => by
  by_cases e : j = i
  · subst e; rw [getD_eq hlf]; exact hf0
  · exact hJ j (by omega)⟩⟩, by first | omega | (dsimp only; omega)⟩
      · have hp33 := of_decide_eq_false hg33
        refine W_exit ?_
        refine thenE_x ?_
        refine thenE_x ?_
        refine blockE_hit ?_
        refine thenE_n ?_
        refine W_seq ?_
        refine W_seq ?_
        refine W_region ?_
        have hi9 : i = K := by omega
        subst hi9
        have hNi : IsNet w30.heap.size wL0.heap.size wL0 ⟨a, c, none, 0, a3, c3⟩ (quoK A C i) := hN.is
        refine WL_q rfl (ev_loads st29 sz29 rfl (cellsB hB6) rfl) ?_
        refine WL_m rfl (ev_call rfl (IsNetwork_spec ⟨a, c, none, 0, a3, c3⟩ (quoK A C i) _ hNi (by omega) (quo_tot hkA (by omega)))) ?_
        rintro _ w92 ⟨b92, rfl, hb92, hE92⟩
        have hz92 := hE92.size
        replace hE := hE.trans hE92
        replace hA := hA.ext hE92
        replace hC := hC.ext hE92
        replace hB2 := hB2.ext hE92
        replace hB4 := hB4.ext hE92
        replace hI30 := hI30.ext hE92
        replace hB6 := hB6.ext hE92
        replace hN := hN.ext hE92
        replace hNi := hNi.ext hE92
        refine WL_q rfl (ev_not rfl) ?_
        refine WL_q rfl (ev_move rfl) ?_
        refine WL_splitv (t := 94) rfl (fun hg93 => ?_) (fun hg93 => ?_)
        · have hg92 := not_true hg93
          have hp92 := ttN hb92 hg92
          refine WL_no rfl rfl hg93 rfl ?_
          refine WL_no rfl rfl hg93 rfl ?_
          refine WL_no rfl rfl hg93 rfl ?_
          refine WL_no rfl rfl hg93 rfl ?_
          refine WL_no rfl rfl hg93 rfl ?_
          refine WL_q rfl (ev_pick_t rfl hg93 rfl) ?_
          refine WL_nil ?_
          refine thenE_n ?_
          refine W_cond_t rfl ?_
          refine W_seq ?_
          refine W_region ?_
          refine WL_q rfl (ev_buildP0 sn29_3 zr29 ) ?_
          refine WL_s (ev_stores sz29 rfl rfl rfl (by simp [Value.oneCell']) hB4 (by simp)) ?_
          rintro _ w18_1 hS18_1
          have hz18_1 := hS18_1.size
          replace hE := hE.sto hS18_1 (by omega)
          replace hA := hA.sto hS18_1 (by omega)
          replace hC := hC.sto hS18_1 (by omega)
          replace hB2 := hB2.sto hS18_1 (by omega)
          replace hI30 := hI30.sto hS18_1 (by omega)
          replace hB6 := hB6.sto hS18_1 (by omega)
          replace hN := hN.sto hS18_1 (by omega)
          replace hNi := hNi.sto hS18_1 (by omega)
          replace hB4 : Blk w18_1 _ _ [_, _, _] := hS18_1.blk
          refine WL_q rfl (ev_assign rfl) ?_
          refine WL_nil ?_
          refine thenE_n ?_
          refine W_ret ?_
          refine thenE_r ?_
          refine retc2 rfl rfl st29 sz29 (cellsB hB4) rfl rfl ?_
          first | (exact ⟨⟨none, 0, none, 0, none, 0⟩, ⟨[], [], []⟩, _, rfl, .no (fun h => hp16 h.1.1), OwnNet.nil, by decide, hE⟩) | (exact ⟨⟨none, 0, none, 0, none, 0⟩, ⟨[], [], []⟩, _, rfl, .no (fun h => tf hg23 h.1.2), OwnNet.nil, by decide, hE⟩) | (refine ⟨⟨none, 0, none, 0, none, 0⟩, ⟨[], [], []⟩, _, rfl, .no (fun h => ?_), OwnNet.nil, by decide, hE⟩; simp only [Int.toNat_natCast] at h; have h9 := h.2.1 i (by omega); rw [getD_eq hlf] at h9; omega) | (refine ⟨⟨none, 0, none, 0, none, 0⟩, ⟨[], [], []⟩, _, rfl, .no (fun h => ?_), OwnNet.nil, by decide, hE⟩; simp only [Int.toNat_natCast] at h; exact hp92 h.2.2.1) | (refine ⟨⟨none, 0, none, 0, none, 0⟩, ⟨[], [], []⟩, _, rfl, .no (fun h => ?_), OwnNet.nil, by decide, hE⟩; simp only [Int.toNat_natCast] at h; exact hp98 h.2.2.2) | (refine ⟨⟨a, c, none, 0, a3, c3⟩, quoK A C i, _, rfl, ?_, OwnNet.up ⟨_, _, hN⟩ (by omega) (by omega), quo_tot hkA (by omega), hE⟩; rw [Int.toNat_natCast]; exact .yes ⟨⟨by omega, hg23⟩, fun x hx => hJ x hx, hp92, hp98⟩ rfl)
        · have hg92 := not_false hg93
          have hp92 := hb92.1 hg92
          refine WL_qg rfl rfl hg93 rfl (ev_loads st29 sz29 rfl (cellsB hB2) rfl) ?_
          refine WL_qg rfl rfl hg93 rfl (ev_loads st29 sz29 rfl (cellsB hB6) rfl) ?_
          refine WL_qg rfl rfl hg93 rfl (ev_move rfl) ?_
          refine WL_mg rfl rfl hg93 rfl (ev_call rfl (isPortMap_spec _ ⟨a, c, none, 0, a3, c3⟩ A (quoK A C i) _ _ C _ hA hNi hC (by omega) (by omega) (by omega) (by omega) (quo_tot hkA (by omega)) (by omega) hkA hp92)) ?_
          rintro _ w98 ⟨b98, rfl, hb98, hE98⟩
          have hz98 := hE98.size
          replace hE := hE.trans hE98
          replace hA := hA.ext hE98
          replace hC := hC.ext hE98
          replace hB2 := hB2.ext hE98
          replace hB4 := hB4.ext hE98
          replace hI30 := hI30.ext hE98
          replace hB6 := hB6.ext hE98
          replace hN := hN.ext hE98
          replace hNi := hNi.ext hE98
          refine WL_qg rfl rfl hg93 rfl (ev_not rfl) ?_
          refine WL_q rfl (ev_pick_f rfl hg93 rfl) ?_
          refine WL_nil ?_
          refine thenE_n ?_
          refine W_cond rfl (fun hg99 => ?_) (fun hg99 => ?_)
          · have hg98 := not_true hg99
            have hp98 := ttN hb98 hg98
            refine W_seq ?_
            refine W_region ?_
            refine WL_q rfl (ev_buildP0 sn29_3 zr29 ) ?_
            refine WL_s (ev_stores sz29 rfl rfl rfl (by simp [Value.oneCell']) hB4 (by simp)) ?_
            rintro _ w18_1 hS18_1
            have hz18_1 := hS18_1.size
            replace hE := hE.sto hS18_1 (by omega)
            replace hA := hA.sto hS18_1 (by omega)
            replace hC := hC.sto hS18_1 (by omega)
            replace hB2 := hB2.sto hS18_1 (by omega)
            replace hI30 := hI30.sto hS18_1 (by omega)
            replace hB6 := hB6.sto hS18_1 (by omega)
            replace hN := hN.sto hS18_1 (by omega)
            replace hNi := hNi.sto hS18_1 (by omega)
            replace hB4 : Blk w18_1 _ _ [_, _, _] := hS18_1.blk
            refine WL_q rfl (ev_assign rfl) ?_
            refine WL_nil ?_
            refine thenE_n ?_
            refine W_ret ?_
            refine thenE_r ?_
            refine retc2 rfl rfl st29 sz29 (cellsB hB4) rfl rfl ?_
            first | (exact ⟨⟨none, 0, none, 0, none, 0⟩, ⟨[], [], []⟩, _, rfl, .no (fun h => hp16 h.1.1), OwnNet.nil, by decide, hE⟩) | (exact ⟨⟨none, 0, none, 0, none, 0⟩, ⟨[], [], []⟩, _, rfl, .no (fun h => tf hg23 h.1.2), OwnNet.nil, by decide, hE⟩) | (refine ⟨⟨none, 0, none, 0, none, 0⟩, ⟨[], [], []⟩, _, rfl, .no (fun h => ?_), OwnNet.nil, by decide, hE⟩; simp only [Int.toNat_natCast] at h; have h9 := h.2.1 i (by omega); rw [getD_eq hlf] at h9; omega) | (refine ⟨⟨none, 0, none, 0, none, 0⟩, ⟨[], [], []⟩, _, rfl, .no (fun h => ?_), OwnNet.nil, by decide, hE⟩; simp only [Int.toNat_natCast] at h; exact hp92 h.2.2.1) | (refine ⟨⟨none, 0, none, 0, none, 0⟩, ⟨[], [], []⟩, _, rfl, .no (fun h => ?_), OwnNet.nil, by decide, hE⟩; simp only [Int.toNat_natCast] at h; exact hp98 h.2.2.2) | (refine ⟨⟨a, c, none, 0, a3, c3⟩, quoK A C i, _, rfl, ?_, OwnNet.up ⟨_, _, hN⟩ (by omega) (by omega), quo_tot hkA (by omega), hE⟩; rw [Int.toNat_natCast]; exact .yes ⟨⟨by omega, hg23⟩, fun x hx => hJ x hx, hp92, hp98⟩ rfl)
          · have hg98 := not_false hg99
            have hp98 := hb98.1 hg98
            refine W_skip ?_
            refine thenE_n ?_
            refine W_seq ?_
            refine W_region ?_
            refine WL_q rfl (ev_loads st29 sz29 rfl (cellsB hB6) rfl) ?_
            refine WL_s (ev_stores sz29 rfl rfl rfl (by simp [Value.oneCell']) hB4 (by simp)) ?_
            rintro _ w19_1 hS19_1
            have hz19_1 := hS19_1.size
            replace hE := hE.sto hS19_1 (by omega)
            replace hA := hA.sto hS19_1 (by omega)
            replace hC := hC.sto hS19_1 (by omega)
            replace hB2 := hB2.sto hS19_1 (by omega)
            replace hI30 := hI30.sto hS19_1 (by omega)
            replace hB6 := hB6.sto hS19_1 (by omega)
            replace hN := hN.sto hS19_1 (by omega)
            replace hNi := hNi.sto hS19_1 (by omega)
            replace hB4 : Blk w19_1 _ _ [_, _, _] := hS19_1.blk
            refine WL_q rfl (ev_assign rfl) ?_
            refine WL_nil ?_
            refine thenE_n ?_
            refine W_ret ?_
            refine retc2 rfl rfl st29 sz29 (cellsB hB4) rfl rfl ?_
            first | (exact ⟨⟨none, 0, none, 0, none, 0⟩, ⟨[], [], []⟩, _, rfl, .no (fun h => hp16 h.1.1), OwnNet.nil, by decide, hE⟩) | (exact ⟨⟨none, 0, none, 0, none, 0⟩, ⟨[], [], []⟩, _, rfl, .no (fun h => tf hg23 h.1.2), OwnNet.nil, by decide, hE⟩) | (refine ⟨⟨none, 0, none, 0, none, 0⟩, ⟨[], [], []⟩, _, rfl, .no (fun h => ?_), OwnNet.nil, by decide, hE⟩; simp only [Int.toNat_natCast] at h; have h9 := h.2.1 i (by omega); rw [getD_eq hlf] at h9; omega) | (refine ⟨⟨none, 0, none, 0, none, 0⟩, ⟨[], [], []⟩, _, rfl, .no (fun h => ?_), OwnNet.nil, by decide, hE⟩; simp only [Int.toNat_natCast] at h; exact hp92 h.2.2.1) | (refine ⟨⟨none, 0, none, 0, none, 0⟩, ⟨[], [], []⟩, _, rfl, .no (fun h => ?_), OwnNet.nil, by decide, hE⟩; simp only [Int.toNat_natCast] at h; exact hp98 h.2.2.2) | (refine ⟨⟨a, c, none, 0, a3, c3⟩, quoK A C i, _, rfl, ?_, OwnNet.up ⟨_, _, hN⟩ (by omega) (by omega), quo_tot hkA (by omega), hE⟩; rw [Int.toNat_natCast]; exact .yes ⟨⟨by omega, hg23⟩, fun x hx => hJ x hx, hp92, hp98⟩ rfl)

end Go.Proofs.Ytmdmpapdjgcchaa
