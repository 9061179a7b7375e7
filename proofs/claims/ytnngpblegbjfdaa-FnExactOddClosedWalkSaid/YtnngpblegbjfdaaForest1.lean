/- Contracts of what the reference cuts off a network, and of its girth. -/
import Derived.Test.YtnngpblegbjfdaaTwoCol
import Derived.Test.YtnngpblegbjfdaaCopy
import Derived.Test.YtnngpblegbjfdaaForest
import Derived.Test.YtnngpblegbjfdaaBuild
namespace Go.Proofs.Ytnngpblegbjfdaa
open Go Go.RowKit

theorem bfs_congr {M N : Ends} {v : Int} (hl : M.length = N.length) (h : ∀ x : Int, near M x = near N x) : bfs M v = bfs N v := by
  have e : ∀ k, bfsN M v k = bfsN N v k := by
    intro k
    induction k with
    | zero => simp only [bfsN, hl]
    | succ k ih =>
      simp only [bfsN, ih]
      unfold bfsS
      split
      · rw [h]
      · rfl
  unfold bfs
  rw [e, hl]
/-- What is left when some ports are kept. -/
def cutE (ends : Ends) (K : Nat → Nat → Bool) : Ends := (List.range ends.length).map fun v => ((List.range (ends.getD v []).length).filter (K v)).map fun i => (((ends.getD v []).getD i (0, 0)).1, 0)
theorem cutE_of (ends : Ends) (K : Nat → Nat → Bool) : CutOf ends (cutE ends K) K := by
  refine ⟨by simp [cutE], fun v hv => ?_⟩
  rw [getD_eq (by simpa [cutE] using hv)]
  simp only [cutE, List.getElem_map, List.getElem_range, List.map_map, Function.comp_def, getD_eq hv]
theorem CutOf.bfs {ends N : Ends} {K : Nat → Nat → Bool} (h : CutOf ends N K) (v : Int) : bfs N v = Go.Proofs.Ytnngpblegbjfdaa.bfs (cutE ends K) v := by
  have h2 := cutE_of ends K
  refine bfs_congr (by rw [h.len, h2.len]) fun x => ?_
  unfold Go.Proofs.Ytnngpblegbjfdaa.near
  by_cases hx : x.toNat < ends.length
  · rw [h.row _ hx, h2.row _ hx]
  · have e1 : N.getD x.toNat [] = [] := by simp [List.getD, List.getElem?_eq_none (show N.length ≤ x.toNat by rw [h.len]; omega)]
    have e2 : (cutE ends K).getD x.toNat [] = [] := by simp [List.getD, List.getElem?_eq_none (show (cutE ends K).length ≤ x.toNat by rw [h2.len]; omega)]
    rw [e1, e2]
theorem CutOf.congr {ends N : Ends} {K K' : Nat → Nat → Bool} (h : CutOf ends N K) (e : ∀ v (hv : v < ends.length) i, i < ends[v].length → K v i = K' v i) : CutOf ends N K' :=
  ⟨h.len, fun v hv => by rw [h.row v hv]; congr 1; exact List.filter_congr fun i hi => e v hv i (List.mem_range.1 hi)⟩
/-- A row of Bools, as a slice has it. -/
def bval (p : Nat × List Bool) : Value := .slice (some ⟨p.1, 0, none⟩) p.2.length p.2.length
structure BRows (l r : Nat) (w : World) (F B : TypeId) (a : Option Addr) (c : Nat) (bs : List Nat) (K : List (List Bool)) : Prop where
  len : bs.length = K.length
  out : OwnH l r 0 0 w F 1 a K.length c ((bs.zip K).map bval)
  row : ∀ i (h1 : i < bs.length) (h2 : i < K.length), l ≤ bs[i] ∧ bs[i] < r ∧ Blk w bs[i] B (K[i].map VB)
  sep : ∀ i j (h1 : i < bs.length) (h2 : j < bs.length), i ≠ j → bs[i] ≠ bs[j]
  osep : ∀ i (h1 : i < bs.length) p, a = some p → p.block ≠ bs[i]
section
variable {l r c : Nat} {w w' : World} {F B : TypeId} {a : Option Addr} {bs : List Nat} {K : List (List Bool)}
theorem BRows.keep {G : Nat → Prop} (h : BRows l r w F B a c bs K) (k : Keep G w w') (hG : ∀ b, l ≤ b → b < r → G b) : BRows l r w' F B a c bs K :=
  ⟨h.len, h.out.keep k hG, fun i h1 h2 => by obtain ⟨k1, k2, k3⟩ := h.row i h1 h2; exact ⟨k1, k2, k3.keep k (hG _ k1 k2)⟩, h.sep, h.osep⟩
theorem BRows.ext (h : BRows l r w F B a c bs K) (k : Ext w w') : BRows l r w' F B a c bs K := ⟨h.len, h.out.ext k, fun i h1 h2 => by obtain ⟨k1, k2, k3⟩ := h.row i h1 h2; exact ⟨k1, k2, k3.ext k⟩, h.sep, h.osep⟩
theorem BRows.sto {g : Nat} {T : TypeId} {ds : List Value} (h : BRows l r w F B a c bs K) (k : Sto w w' g T ds) (hb : g < l ∨ r ≤ g) : BRows l r w' F B a c bs K := h.keep k.keep fun b h1 h2 => by show b ≠ g; omega
theorem BRows.kx {g : Nat} (h : BRows l r w F B a c bs K) (k : KX g w w') (hb : (g < l ∨ r ≤ g) ∧ r ≤ w.heap.size) : BRows l r w' F B a c bs K := h.keep k fun b h1 h2 => ⟨by omega, by omega⟩
theorem BRows.rg {lo hi p q : Nat} (h : BRows l r w F B a c bs K) (k : Rg lo hi p q w w') (hb : (r ≤ lo ∨ hi ≤ l ∨ (p ≤ l ∧ r ≤ q)) ∧ r ≤ w.heap.size) : BRows l r w' F B a c bs K := h.keep k fun b h1 h2 => ⟨by omega, by omega⟩
theorem BRows.lo {y : Nat} (h : BRows l r w F B a c bs K) (k : Lo y w w') (hb : r ≤ y) : BRows l r w' F B a c bs K := h.keep k.2 fun b _ h2 => Nat.lt_of_lt_of_le h2 hb
theorem BRows.app {a' : Option Addr} {lo' sz' n' c' : Nat} {E : TypeId} {ds : List Value} (h : BRows l r w F B a c bs K) (k : Apd w w' a') (o : Own lo' w E sz' a' n' c' ds) (hb : r ≤ lo' ∧ r ≤ w.heap.size) : BRows l r w' F B a c bs K := h.keep k fun b h1 h2 => ⟨by omega, fun q hq => by have := (o.block q hq).1; omega⟩
theorem BRows.up {r' : Nat} (h : BRows l r w F B a c bs K) (hr : r ≤ r') : BRows l r' w F B a c bs K := ⟨h.len, h.out.up (Nat.le_refl _) hr, fun i h1 h2 => by obtain ⟨k1, k2, k3⟩ := h.row i h1 h2; exact ⟨k1, by omega, k3⟩, h.sep, h.osep⟩
theorem BRows.low {l' : Nat} (h : BRows l r w F B a c bs K) (hl : l' ≤ l) : BRows l' r w F B a c bs K := ⟨h.len, h.out.up hl (Nat.le_refl _), fun i h1 h2 => by obtain ⟨k1, k2, k3⟩ := h.row i h1 h2; exact ⟨by omega, k2, k3⟩, h.sep, h.osep⟩
theorem BRows.nil : BRows l r w F B none 0 [] [] := ⟨rfl, OwnH.nil, fun i h1 => by simp at h1, fun i j h1 => by simp at h1, fun i h1 => by simp at h1⟩
theorem BRows.to {K' : List (List Bool)} (h : BRows l r w F B a c bs K) (e : K = K') : BRows l r w F B a c bs K' := e ▸ h
theorem BRows.snoc (h : BRows l r w F B a c bs K) {b n' c' : Nat} {a' : Option Addr} {x : List Bool} (hB : Blk w b B (x.map VB)) (hb : r ≤ b) (k : Apd w w' a) (o : Own l w' F 1 a' n' c' ((bs.zip K).map bval ++ [bval (b, x)])) (hn : n' = K.length + 1)
    (fr : ∀ q, a' = some q → (∃ p, a = some p ∧ q.block = p.block) ∨ w.heap.size ≤ q.block) (hr : r ≤ w.heap.size) (hl : l ≤ r) : BRows l w'.heap.size w' F B a' c' (bs ++ [b]) (K ++ [x]) := by
  subst hn
  have hks := k.size
  have hlt := hB.lt
  have hlen := h.len
  have ha : ∀ q, a' = some q → q.block ≠ b := fun q hq => by
    rcases fr q hq with ⟨p, hp, e⟩ | hge
    · have := (h.out.2 p hp).1; omega
    · omega
  have hB2 : Blk w' b B (x.map VB) := hB.keep k ⟨hlt, fun q hq => by have := (h.out.2 q hq).1; omega⟩
  refine ⟨by simp [hlen], ⟨?_, fun q hq => ⟨(o.block q hq).2, .inr (Nat.zero_le _)⟩⟩, fun i h1 h2 => ?_, fun i j h1 h2 hne => ?_, fun i h1 p hp => ?_⟩
  · rw [List.zip_append hlen, List.map_append, List.length_append]; exact o
  · by_cases hi : i < bs.length
    · simp only [List.getElem_append_left hi, List.getElem_append_left (show i < K.length by omega)]
      obtain ⟨k1, k2, k3⟩ := h.row i hi (by omega)
      exact ⟨k1, by omega, k3.keep k ⟨k3.lt, fun q hq => Ne.symm (h.osep i hi q hq)⟩⟩
    · have e : i = bs.length := by simp at h1; omega
      subst e
      simp only [List.getElem_append_right (Nat.le_refl _), List.getElem_append_right (show K.length ≤ bs.length by omega)]
      simp only [hlen, Nat.sub_self, List.getElem_cons_zero]
      exact ⟨by omega, by omega, hB2⟩
  · by_cases hi : i < bs.length <;> by_cases hj : j < bs.length
    · rw [List.getElem_append_left hi, List.getElem_append_left hj]; exact h.sep i j hi hj hne
    · have e : j = bs.length := by simp at h2; omega
      subst e
      rw [List.getElem_append_left hi]
      have := (h.row i hi (by omega)).2.1
      simp; omega
    · have e : i = bs.length := by simp at h1; omega
      subst e
      rw [List.getElem_append_left hj]
      have := (h.row j hj (by omega)).2.1
      simp; omega
    · simp at h1 h2; omega
  · by_cases hi : i < bs.length
    · rw [List.getElem_append_left hi]
      rcases fr p hp with ⟨z, hz, e⟩ | hge
      · rw [e]; exact h.osep i hi z hz
      · have := (h.row i hi (by omega)).2.1; omega
    · have e : i = bs.length := by simp at h1; omega
      subst e
      simp; exact ha p hp
/-- A Bool is stored. -/
theorem BRows.set (h : BRows l r w F B a c bs K) {i j g : Nat} (h1 : i < bs.length) (h2 : i < K.length) {T : TypeId} {ds : List Value} {x : Bool} (hg : bs[i] = g) (s : Sto w w' g T ds) (hB : Blk w' g B ((K[i].set j x).map VB)) : BRows l r w' F B a c bs (K.set i (K[i].set j x)) := by
  subst hg
  have e : ((bs.zip (K.set i (K[i].set j x))).map bval) = (bs.zip K).map bval := by
    refine List.ext_getElem (by simp) fun q h3 h4 => ?_
    simp only [List.getElem_map, List.getElem_zip, bval]
    by_cases hq : i = q
    · subst hq; rw [List.getElem_set_self, List.length_set]
    · rw [List.getElem_set_ne hq]
  have hr := h.row i h1 h2
  refine ⟨by simp [h.len], ?_, fun q h3 h4 => ?_, h.sep, h.osep⟩
  · rw [e, List.length_set]
    exact ⟨h.out.1.keep s.keep fun q hq => h.osep i h1 q hq, h.out.2⟩
  · by_cases hq : i = q
    · subst hq; simp only [List.getElem_set_self]; exact ⟨hr.1, hr.2.1, hB⟩
    · simp only [List.getElem_set_ne hq]
      obtain ⟨k1, k2, k3⟩ := h.row q h3 (by simpa using h4)
      exact ⟨k1, k2, k3.keep s.keep (h.sep q i h3 h1 (Ne.symm hq))⟩
/-- The slice of rows, as a block. -/
theorem BRows.open (h : BRows l r w F B a c bs K) (h0 : 0 < K.length) : ∃ g rest, a = some ⟨g, 0, none⟩ ∧ l ≤ g ∧ g < r ∧ Blk w g F ((bs.zip K).map bval ++ rest) ∧ ∀ i (_h1 : i < bs.length), bs[i] ≠ g := by
  have hl := h.len
  obtain ⟨g, rest, ha, hg, hB, _⟩ := h.out.1.open (by simp [hl]; omega)
  exact ⟨g, rest, ha, hg, (h.out.2 _ ha).1, hB, fun i h1 e => h.osep i h1 _ ha e.symm⟩
theorem bval_at {rest : List Value} {i : Nat} (h1 : i < bs.length) (h2 : i < K.length) : ((bs.zip K).map bval ++ rest)[i]? = some (.slice (some ⟨bs[i], 0, none⟩) K[i].length K[i].length) := by
  rw [List.getElem?_append_left (by simp; omega), List.getElem?_eq_getElem (by simp; omega)]; simp [bval]
end
/-- All ports. -/
def allK (ends : Ends) (i : Nat) : List (List Bool) := (ends.take i).map fun r => List.replicate r.length true
theorem allK_succ {ends : Ends} {i : Nat} (h : i < ends.length) : allK ends i ++ [List.replicate ends[i].length true] = allK ends (i + 1) := by
  unfold allK; rw [List.take_succ_eq_append_getElem h, List.map_append]; rfl
theorem allK_len {ends : Ends} {i : Nat} (h : i ≤ ends.length) : (allK ends i).length = i := by simp [allK]; omega
def fillB (m k : Nat) : List Bool := List.replicate k true ++ List.replicate (m - k) false
theorem fillB_set {m k : Nat} (h : k < m) : (fillB m k).set k true = fillB m (k + 1) := by
  unfold fillB
  rw [List.set_append_right _ _ (by simp), show m - k = (m - (k + 1)) + 1 by omega, List.replicate_succ]
  simp only [List.length_replicate, Nat.sub_self, List.set_cons_zero]
  rw [List.replicate_succ', List.append_assoc]; rfl
theorem fillB_len {m k : Nat} (h : k ≤ m) : (fillB m k).length = m := by simp [fillB]; omega
theorem fillB_full (m : Nat) : fillB m m = List.replicate m true := by simp [fillB]
theorem fillB_zero (m : Nat) : fillB m 0 = List.replicate m false := by simp [fillB]

set_option maxHeartbeats 1000000 in
set_option maxRecDepth 100000 in
theorem neAll_spec {loA hiA : Nat} (nA : NA) (A : Net) (w : World) (hA : IsNet loA hiA w nA A) (hhiA : hiA ≤ w.heap.size) (hnA : totN A ≤ 1048576) :
    Fn Try.prog 50 #[netV nA A] w (fun o9 w' => ∃ a' c' bs, o9 = .slice a' A.ends.length c' ∧ BRows w.heap.size w'.heap.size w' 73 4 a' c' bs (allK A.ends A.ends.length) ∧ Ext w w') := by
  have hqA := totL_len A.ends
  have hmA : totL A.ends + A.ids.length + A.inputs.length ≤ 1048576 := hnA
  have hE := Ext.refl w
  refine Fn_of Try.func50 rfl rfl (by kernel_rfl) rfl ?_
  refine W_seq ?_
  refine W_region ?_
  refine WL_m rfl (ev_box rfl) ?_
  rintro _ w1 ⟨rfl, hN1⟩
  have hz1 := hN1.size
  replace hE := hE.trans hN1.ext
  replace hA := hA.ext hN1.ext
  have hB1 : Blk w1 _ _ [_, _, _] := hN1.blk
  refine WL_q rfl (ev_assign rfl) ?_
  refine WL_nil ?_
  refine thenE_n ?_
  refine W_seq ?_
  refine W_region ?_
  refine WL_q rfl (ev_assign rfl) ?_
  refine WL_nil ?_
  refine thenE_n ?_
  refine W_seq ?_
  refine W_seq ?_
  refine W_region ?_
  refine WL_q rfl (ev_fieldAddr fo31_0 rfl) ?_
  refine WL_q rfl (ev_load one29 rfl (hB1.cell rfl)) ?_
  refine WL_q rfl (ev_len Try.underlying29 rfl) ?_
  refine WL_q rfl (ev_move rfl) ?_
  refine WL_nil ?_
  refine thenE_n ?_
  refine W_block ?_
  refine W_loopC (G := Nat × Option Addr × Nat × List Nat) [(9, _), (10, _)] ((Subs.c rfl (Subs.c rfl Subs.n))) (fun ⟨i, a, c, bs⟩ => [(3, .slice a i c), (11, VI (i : Int))]) (fun ⟨i, a, c, bs⟩ w' => Ext w1 w' ∧ i ≤ A.ends.length ∧ BRows w1.heap.size w'.heap.size w' 73 4 a c bs (allK A.ends i)) (fun g => A.ends.length - g.1) (0, none, 0, []) ((Subs.c rfl (Subs.c (lkI rfl (by omega)) Subs.n))) (⟨Ext.refl _, ⟨Nat.zero_le _, BRows.nil⟩⟩) ?_
  rintro ⟨i, a, c, bs⟩ wL0 ⟨hRL0, hi', hK⟩
  have hzL0 := hRL0.size
  replace hE := hE.trans hRL0
  replace hA := hA.ext hRL0
  replace hB1 := hB1.ext hRL0
  refine W_seq ?_
  refine W_region ?_
  refine WL_q rfl (ev_lss rfl rfl) ?_
  refine WL_nil ?_
  refine thenE_n ?_
  refine W_seq ?_
  refine W_cond rfl (fun hg12 => ?_) (fun hg12 => ?_)
  · have hp12 := of_decide_eq_true hg12
    refine W_skip ?_
    refine thenE_n ?_
    refine W_seq ?_
    refine W_block ?_
    refine W_seq ?_
    refine W_region ?_
    have hlt : i < A.ends.length := by omega
    have htl := totL_le hlt
    have hal := allK_len (ends := A.ends) (i := i) (by omega)
    have hl13 : i < A.ends.length := by omega
    have ht13 := totL_le hl13
    obtain ⟨a13, c13, hc13, hr13⟩ := hA.ends.row hl13
    refine WL_q rfl (ev_indexAddr Try.underlying29 sz55 rfl rfl (hA.ends.isSome (by omega)) (by omega) (by omega)) ?_
    refine WL_q rfl (ev_load one55 rfl (hc13)) ?_
    refine WL_q rfl (ev_assign rfl) ?_
    refine WL_nil ?_
    refine thenE_n ?_
    refine W_seq ?_
    refine W_region ?_
    refine WL_q rfl (ev_move rfl) ?_
    refine WL_q rfl (ev_len Try.underlying55 rfl) ?_
    refine WL_m rfl (ev_makeN Try.underlying73 el4 rfl rfl rfl (by omega) (by omega)) ?_
    rintro _ w17 ⟨rfl, hN17⟩
    have hz17 := hN17.size
    replace hE := hE.trans hN17.ext
    replace hRL0 := hRL0.trans hN17.ext
    replace hA := hA.ext hN17.ext
    replace hB1 := hB1.ext hN17.ext
    replace hK := hK.ext hN17.ext
    replace hr13 := hr13.ext hN17.ext
    have hB17 := hN17.blk
    have hBk0 : Blk w17 wL0.heap.size 4 ((fillB A.ends[i].length 0).map VB) := by rw [fillB_zero, List.map_replicate]; exact hB17
    refine WL_q rfl (ev_assign rfl) ?_
    refine WL_nil ?_
    refine thenE_n ?_
    refine W_seq ?_
    refine W_seq ?_
    refine W_region ?_
    refine WL_q rfl (ev_move rfl) ?_
    refine WL_q rfl (ev_len Try.underlying73 rfl) ?_
    refine WL_q rfl (ev_move rfl) ?_
    refine WL_nil ?_
    refine thenE_n ?_
    refine W_block ?_
    refine W_loopC (G := Nat) [(3, _), (6, _), (9, _), (10, _), (11, _), (19, _)] ((Subs.c rfl (Subs.c rfl (Subs.c rfl (Subs.c rfl (Subs.c rfl (Subs.c rfl Subs.n))))))) (fun k => [(20, VI (k : Int))]) (fun k w' => KX (wL0.heap.size) w17 w' ∧ k ≤ A.ends[i].length ∧ Blk w' wL0.heap.size 4 ((fillB A.ends[i].length k).map VB)) (fun k => A.ends[i].length - k) 0 ((Subs.c (lkI rfl (by omega)) Subs.n)) (⟨KX.refl _ _, ⟨Nat.zero_le _, hBk0⟩⟩) ?_
    rintro k wL2 ⟨hRL2, hk', hBk⟩
    have hzL2 := hRL2.size
    replace hA := hA.kx hRL2 (by omega)
    replace hB1 := hB1.kx hRL2 (by omega)
    replace hK := hK.kx hRL2 (by omega)
    replace hr13 := hr13.kx hRL2 (by omega)
    replace hE := hE.kx hRL2 (by omega)
    replace hRL0 := hRL0.kx hRL2 (by omega)
    have hfl := fillB_len hk'
    refine W_seq ?_
    refine W_region ?_
    refine WL_q rfl (ev_lss rfl rfl) ?_
    refine WL_nil ?_
    refine thenE_n ?_
    refine W_seq ?_
    refine W_cond rfl (fun hg21 => ?_) (fun hg21 => ?_)
    · have hp21 := of_decide_eq_true hg21
      refine W_skip ?_
      refine thenE_n ?_
      refine W_seq ?_
      refine W_block ?_
      refine W_seq ?_
      refine W_region ?_
      refine WL_q rfl (ev_move rfl) ?_
      refine WL_q rfl (ev_assign rfl) ?_
      refine WL_nil ?_
      refine thenE_n ?_
      refine W_region ?_
      refine WL_q rfl (ev_move rfl) ?_
      refine WL_q rfl (ev_move rfl) ?_
      refine WL_q rfl (ev_indexAddr Try.underlying73 sz4 rfl rfl rfl (by omega) (by omega)) ?_
      refine WL_s (ev_store sz4 rfl rfl rfl hBk (by simp; omega)) ?_
      rintro _ w9_3 hS9_3
      have hz9_3 := hS9_3.size
      replace hE := hE.sto hS9_3 (by omega)
      replace hRL0 := hRL0.sto hS9_3 (by omega)
      replace hRL2 := hRL2.sto hS9_3 (by omega)
      replace hA := hA.sto hS9_3 (by omega)
      replace hB1 := hB1.sto hS9_3 (by omega)
      replace hK := hK.sto hS9_3 (by omega)
      replace hr13 := hr13.sto hS9_3 (by omega)
      replace hBk := hS9_3.blk
      replace hBk := bset (i := k) (by omega) hBk
      refine WL_nil ?_
      refine blockE_n ?_
      refine thenE_n ?_
      refine W_region ?_
      refine WL_q rfl (ev_add rfl rfl (by omega)) ?_
      refine WL_q rfl (ev_move rfl) ?_
      refine WL_nil ?_
      refine thenE_n ?_
      rw [fillB_set (by omega)] at hBk
      exact ⟨k + 1, (Subs.c rfl (Subs.c rfl (Subs.c rfl (Subs.c rfl (Subs.c rfl (Subs.c rfl Subs.n)))))), (Subs.c (lkI rfl (by omega)) Subs.n), ⟨hRL2, ⟨by omega, hBk⟩⟩, by first | omega | (dsimp only; omega)⟩
    · have hp21 := of_decide_eq_false hg21
      refine W_exit ?_
      refine thenE_x ?_
      refine thenE_x ?_
      refine blockE_hit ?_
      refine thenE_n ?_
      refine W_region ?_
      have hk9 : k = A.ends[i].length := by omega
      rw [hk9, fillB_full] at hBk
      refine WL_q rfl (ev_move rfl) ?_
      refine WL_q rfl (ev_move rfl) ?_
      refine WL_m rfl (ev_lit1 Try.underlying71 el73 (by decide) (by decide) rfl rfl) ?_
      rintro _ w29 ⟨rfl, hN29⟩
      have hz29 := hN29.size
      replace hE := hE.trans hN29.ext
      replace hRL0 := hRL0.trans hN29.ext
      replace hA := hA.ext hN29.ext
      replace hB1 := hB1.ext hN29.ext
      replace hK := hK.ext hN29.ext
      replace hr13 := hr13.ext hN29.ext
      replace hBk := hBk.ext hN29.ext
      have hB29 := hN29.blk
      have hP30 := hK.out.1
      rw [hal] at hP30
      refine WL_m rfl (ev_append Try.underlying71 el73 rfl (by decide) rfl rfl hP30 (SAt.of_blk (cs := [_]) (ds := []) hB29) rfl (by simp [Value.oneCell']) (by omega) (by unfold maxLen; omega) (by omega)) ?_
      rintro _ w30 ⟨a30, c30, rfl, hO30, hK30, hQ30⟩
      have hz30 := hK30.size
      replace hE := hE.app hK30 (fun q hq => by have := (hP30.block q hq).1; omega)
      replace hRL0 := hRL0.app hK30 (fun q hq => by have := (hP30.block q hq).1; omega)
      replace hA := hA.app hK30 (hP30) (by omega)
      replace hB1 := hB1.app hK30 (hP30) (by omega)
      replace hr13 := hr13.app hK30 (hP30) (by omega)
      replace hP30 := hO30
      have hK30 := (hK.snoc (x := List.replicate A.ends[i].length true) hBk (by omega) hK30 (by rw [bval, List.length_replicate]; exact hO30) (by omega) hQ30 (by omega) (by omega)).to (allK_succ hlt)
      refine WL_q rfl (ev_assign rfl) ?_
      refine WL_nil ?_
      refine blockE_n ?_
      refine thenE_n ?_
      refine W_region ?_
      refine WL_q rfl (ev_add rfl rfl (by omega)) ?_
      refine WL_q rfl (ev_move rfl) ?_
      refine WL_nil ?_
      refine thenE_n ?_
      exact ⟨(i + 1, a30, c30, bs ++ [wL0.heap.size]), (Subs.c rfl (Subs.c rfl Subs.n)), (Subs.c rfl (Subs.c (lkI rfl (by omega)) Subs.n)), ⟨hRL0, ⟨by omega, hK30⟩⟩, by first | omega | (dsimp only; omega)⟩
  · have hp12 := of_decide_eq_false hg12
    refine W_exit ?_
    refine thenE_x ?_
    refine thenE_x ?_
    refine blockE_hit ?_
    refine thenE_n ?_
    refine W_seq ?_
    refine W_region ?_
    refine WL_q rfl (ev_move rfl) ?_
    refine WL_q rfl (ev_assign rfl) ?_
    refine WL_nil ?_
    refine thenE_n ?_
    refine W_ret ?_
    refine ret1 rfl rfl ?_
    have hi9 : i = A.ends.length := by omega
    subst hi9
    exact ⟨_, _, bs, rfl, hK.low (by omega), hE⟩

end Go.Proofs.Ytnngpblegbjfdaa
