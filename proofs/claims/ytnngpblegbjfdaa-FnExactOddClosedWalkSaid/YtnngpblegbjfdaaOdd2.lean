/- Contract of spec.meSteps. -/
import Derived.Test.YtnngpblegbjfdaaOdd
import Derived.Test.YtnngpblegbjfdaaForest1
namespace Go.Proofs.Ytnngpblegbjfdaa
open Go Go.RowKit

def stK (ends : Ends) (g m : Nat) : List (List Bool) := (List.range m).map (stL ends g)
theorem stK_len {ends : Ends} {g m : Nat} : (stK ends g m).length = m := by simp [stK]
theorem stK_at {ends : Ends} {g m k : Nat} (h : k < (stK ends g m).length) : (stK ends g m)[k] = stL ends g k := by simp [stK]
theorem stK_snoc {ends : Ends} {g m : Nat} : stK ends g m ++ [stL ends g m] = stK ends g (m + 1) := by simp [stK, List.range_succ]
theorem stL_zero {ends : Ends} {g : Nat} : (List.replicate ends.length false).set g true = stL ends g 0 := by
  refine List.ext_getElem (by simp [stL]) fun i h1 h2 => ?_
  by_cases e : g = i
  · subst e; rw [List.getElem_set_self]; simp [stL]
  · rw [List.getElem_set_ne e]; simp [stL, Ne.symm e]
/-- One row of the next step: v nodes are done, node v has x. -/
def rwB (ends : Ends) (P : List Bool) (v : Nat) (x : Bool) : List Bool := (List.range ends.length).map fun u : Nat => if u < v then (near ends (u : Int)).any fun w => P.getD w.toNat false else if u = v then x else false
theorem rwB_len {ends : Ends} {P : List Bool} {v : Nat} {x : Bool} : (rwB ends P v x).length = ends.length := by simp [rwB]
theorem rwB_zero {ends : Ends} {P : List Bool} : rwB ends P 0 false = List.replicate ends.length false := by
  refine List.ext_getElem (by simp [rwB]) fun i h1 h2 => ?_
  simp [rwB]
theorem rwB_at {ends : Ends} {P : List Bool} {v : Nat} {x : Bool} (h : v < (rwB ends P v x).length) : (rwB ends P v x)[v] = x := by simp [rwB]
theorem rwB_set {ends : Ends} {P : List Bool} {v : Nat} {x y : Bool} : (rwB ends P v x).set v y = rwB ends P v y := by
  refine List.ext_getElem (by simp [rwB]) fun i h1 h2 => ?_
  by_cases e : v = i
  · subst e; rw [List.getElem_set_self]; simp [rwB]
  · rw [List.getElem_set_ne e]; simp [rwB, Ne.symm e]
theorem rwB_next {ends : Ends} {P : List Bool} {v : Nat} : rwB ends P v ((near ends (v : Int)).any fun w => P.getD w.toNat false) = rwB ends P (v + 1) false := by
  refine List.map_congr_left fun u hu => ?_
  by_cases h1 : u < v
  · rw [if_pos h1, if_pos (by omega)]
  · by_cases h2 : u = v
    · subst h2; rw [if_neg h1, if_pos rfl, if_pos (by omega)]
    · rw [if_neg h1, if_neg h2, if_neg (by omega)]; split <;> rfl
theorem rwB_full {ends : Ends} {g k : Nat} : rwB ends (stL ends g k) ends.length false = stL ends g (k + 1) := by
  show _ = (List.range ends.length).map fun v : Nat => (near ends (v : Int)).any fun w => (stL ends g k).getD w.toNat false
  exact List.map_congr_left fun u hu => if_pos (List.mem_range.1 hu)
/-- Whether one of the first j near nodes is marked. -/
def anyJ (ends : Ends) (P : List Bool) (v j : Nat) : Bool := ((near ends (v : Int)).take j).any fun w => P.getD w.toNat false
theorem anyJ_zero {ends : Ends} {P : List Bool} {v : Nat} : anyJ ends P v 0 = false := by simp [anyJ]
theorem anyJ_yes {ends : Ends} {P : List Bool} {v j : Nat} (h : anyJ ends P v j = true) : anyJ ends P v (j + 1) = true := by
  unfold anyJ at *
  obtain ⟨x, hx, hp⟩ := List.any_eq_true.1 h
  exact List.any_eq_true.2 ⟨x, List.take_subset_take_left _ (by omega) hx, hp⟩
theorem anyJ_no {ends : Ends} {P : List Bool} {v j : Nat} (hj : j < (near ends (v : Int)).length) (h : anyJ ends P v j = false) : anyJ ends P v (j + 1) = P.getD ((near ends (v : Int))[j]).toNat false := by
  unfold anyJ at *
  rw [List.take_succ_eq_append_getElem hj, List.any_append, h]; simp
theorem anyJ_full {ends : Ends} {P : List Bool} {v j : Nat} (hj : (near ends (v : Int)).length ≤ j) : anyJ ends P v j = (near ends (v : Int)).any fun w => P.getD w.toNat false := by
  unfold anyJ; rw [List.take_of_length_le hj]
theorem BRows.lit {l r b g : Nat} {w : World} {F B : TypeId} {x : List Bool} (hB : Blk w b B (x.map VB)) (hO : Blk w g F [bval (b, x)]) (h1 : l ≤ b) (h2 : b < r) (h3 : l ≤ g) (h4 : g < r) (h5 : g ≠ b) : BRows l r w F B (some ⟨g, 0, none⟩) 1 [b] [x] := by
  refine ⟨rfl, ⟨own_of_blk (n := 1) hO h3 rfl (by omega), fun p hp => ⟨by cases hp; exact h4, .inr (Nat.zero_le _)⟩⟩, fun i h6 h7 => ?_, fun i j h6 h7 hne => ?_, fun i h6 p hp => ?_⟩
  · have e : i = 0 := by simp at h6; omega
    subst e; exact ⟨h1, h2, hB⟩
  · simp at h6 h7; omega
  · have e : i = 0 := by simp at h6; omega
    subst e; cases hp; exact h5

set_option maxHeartbeats 1000000 in
set_option maxRecDepth 100000 in
theorem meSteps_spec {loA hiA : Nat} (nA : NA) (A : Net) (g q : Nat) (hg : g < A.ends.length) (hq : q ≤ 1000) (w : World) (hA : IsNet loA hiA w nA A) (hhiA : hiA ≤ w.heap.size) (hnA : totN A ≤ 1048576) (hkA : NOk A) :
    Fn Try.prog 45 #[netV nA A, VI (g : Int), VI (q : Int)] w (fun o9 w' => ∃ a' c' bs, o9 = .slice a' (q + 1) c' ∧ BRows w.heap.size w'.heap.size w' 73 4 a' c' bs (stK A.ends g (q + 1)) ∧ Ext w w') := by
  have hqA := totL_len A.ends
  have hmA : totL A.ends + A.ids.length + A.inputs.length ≤ 1048576 := hnA
  have hndA := hkA.nodes
  have hk9 := hkA.endsOk
  have h6 := hkA.six
  have hE := Ext.refl w
  refine Fn_of Try.func45 rfl rfl (by kernel_rfl) rfl ?_
  refine W_seq ?_
  refine W_region ?_
  refine WL_m rfl (ev_box rfl) ?_
  rintro _ w3 ⟨rfl, hN3⟩
  have hz3 := hN3.size
  replace hE := hE.trans hN3.ext
  replace hA := hA.ext hN3.ext
  have hB3 : Blk w3 _ _ [_, _, _] := hN3.blk
  refine WL_q rfl (ev_assign rfl) ?_
  refine WL_nil ?_
  refine thenE_n ?_
  refine W_seq ?_
  refine W_region ?_
  refine WL_q rfl (ev_fieldAddr fo31_0 rfl) ?_
  refine WL_q rfl (ev_load one29 rfl (hB3.cell rfl)) ?_
  refine WL_q rfl (ev_len Try.underlying29 rfl) ?_
  refine WL_m rfl (ev_makeN Try.underlying73 el4 rfl rfl rfl (by omega) (by omega)) ?_
  rintro _ w17 ⟨rfl, hN17⟩
  have hz17 := hN17.size
  replace hE := hE.trans hN17.ext
  replace hA := hA.ext hN17.ext
  replace hB3 := hB3.ext hN17.ext
  have hB17 := hN17.blk
  refine WL_q rfl (ev_assign rfl) ?_
  refine WL_nil ?_
  refine thenE_n ?_
  refine W_seq ?_
  refine W_region ?_
  refine WL_q rfl (ev_move rfl) ?_
  refine WL_q rfl (ev_move rfl) ?_
  refine WL_q rfl (ev_indexAddr Try.underlying73 sz4 rfl rfl rfl (by omega) (by omega)) ?_
  refine WL_s (ev_store sz4 rfl rfl rfl hB17 (by simp; omega)) ?_
  rintro _ w2_3 hS2_3
  have hz2_3 := hS2_3.size
  replace hE := hE.sto hS2_3 (by omega)
  replace hA := hA.sto hS2_3 (by omega)
  replace hB3 := hB3.sto hS2_3 (by omega)
  replace hB17 := hS2_3.blk
  have hBk0 : Blk w2_3 w3.heap.size 4 ((stL A.ends g 0).map VB) := by rw [← stL_zero, List.map_set, List.map_replicate]; simpa using hB17
  have hl0 := stL_len (ends := A.ends) (g := g) (k := 0)
  refine WL_nil ?_
  refine thenE_n ?_
  refine W_seq ?_
  refine W_region ?_
  refine WL_q rfl (ev_move rfl) ?_
  refine WL_m rfl (ev_lit1 Try.underlying71 el73 (by decide) (by decide) rfl rfl) ?_
  rintro _ w22 ⟨rfl, hN22⟩
  have hz22 := hN22.size
  replace hE := hE.trans hN22.ext
  replace hA := hA.ext hN22.ext
  replace hB3 := hB3.ext hN22.ext
  replace hBk0 := hBk0.ext hN22.ext
  have hB22 := hN22.blk
  have hK0 : BRows w3.heap.size w22.heap.size w22 73 4 _ 1 [w3.heap.size] [stL A.ends g 0] := BRows.lit hBk0 (by rw [bval, hl0]; exact hB22) (Nat.le_refl _) (by have := hBk0.lt; omega) (by omega) (by omega) (by omega)
  refine WL_q rfl (ev_assign rfl) ?_
  refine WL_nil ?_
  refine thenE_n ?_
  refine W_seq ?_
  refine W_seq ?_
  refine W_region ?_
  refine WL_q rfl (ev_assign rfl) ?_
  refine WL_nil ?_
  refine thenE_n ?_
  refine W_block ?_
  refine W_loopC (G := Nat × Option Addr × Nat × List Nat) [(2, _), (3, _)] ((Subs.c rfl (Subs.c rfl Subs.n))) (fun ⟨k, a, c, bs⟩ => [(7, .slice (some ⟨bs.getD k 0, 0, none⟩) A.ends.length A.ends.length), (8, .slice a (k + 1) c), (9, VI (k : Int))]) (fun ⟨k, a, c, bs⟩ w' => Lo (w3.heap.size) w22 w' ∧ k ≤ q ∧ BRows w3.heap.size w'.heap.size w' 73 4 a c bs (stK A.ends g (k + 1))) (fun g9 => q - g9.1) (0, _, 1, [w3.heap.size]) ((Subs.c rfl (Subs.c rfl (Subs.c rfl Subs.n)))) (⟨Lo.refl (by omega), ⟨Nat.zero_le _, hK0⟩⟩) ?_
  rintro ⟨k, a, c, bs⟩ wL0 ⟨hRL0, hk', hK⟩
  have hzL0 := hRL0.size
  replace hA := hA.lo hRL0 (by omega)
  replace hB3 := hB3.lo hRL0 (by omega)
  replace hE := hE.lo hRL0 (by omega)
  refine W_seq ?_
  refine W_seq ?_
  refine W_region ?_
  refine WL_q rfl (ev_move rfl) ?_
  refine WL_q rfl (ev_move rfl) ?_
  refine WL_q rfl (ev_lss rfl rfl) ?_
  refine WL_nil ?_
  refine thenE_n ?_
  refine W_cond rfl (fun hg25 => ?_) (fun hg25 => ?_)
  · have hp25 := of_decide_eq_true hg25
    refine W_skip ?_
    refine thenE_n ?_
    refine W_seq ?_
    refine W_block ?_
    refine W_seq ?_
    refine W_region ?_
    have hkl := stK_len (ends := A.ends) (g := g) (m := k + 1)
    have hbl : bs.length = k + 1 := by have := hK.len; omega
    have hnr := hK.row k (by omega) (by omega)
    have hbe : bs.getD k 0 = bs[k] := getD_eq (by omega)
    have hnow : Blk wL0 (bs.getD k 0) 4 ((stL A.ends g k).map VB) := by have h9 := hnr.2.2; rw [stK_at] at h9; rw [hbe]; exact h9
    have hnr2 : bs.getD k 0 < wL0.heap.size := by rw [hbe]; exact hnr.2.1
    have hnr3 : w3.heap.size ≤ bs.getD k 0 := by rw [hbe]; exact hnr.1
    have hll := stL_len (ends := A.ends) (g := g) (k := k)
    refine WL_q rfl (ev_fieldAddr fo31_0 rfl) ?_
    refine WL_q rfl (ev_load one29 rfl (hB3.cell rfl)) ?_
    refine WL_q rfl (ev_len Try.underlying29 rfl) ?_
    refine WL_m rfl (ev_makeN Try.underlying73 el4 rfl rfl rfl (by omega) (by omega)) ?_
    rintro _ w31 ⟨rfl, hN31⟩
    have hz31 := hN31.size
    replace hE := hE.trans hN31.ext
    replace hRL0 := hRL0.trans hN31.ext
    replace hA := hA.ext hN31.ext
    replace hB3 := hB3.ext hN31.ext
    replace hK := hK.ext hN31.ext
    replace hnow := hnow.ext hN31.ext
    have hB31 := hN31.blk
    have hBn0 : Blk w31 wL0.heap.size 4 ((rwB A.ends (stL A.ends g k) 0 false).map VB) := by rw [rwB_zero, List.map_replicate]; exact hB31
    refine WL_q rfl (ev_assign rfl) ?_
    refine WL_nil ?_
    refine thenE_n ?_
    refine W_seq ?_
    refine W_seq ?_
    refine W_region ?_
    refine WL_q rfl (ev_move rfl) ?_
    refine WL_q rfl (ev_len Try.underlying73 rfl) ?_
    refine WL_q rfl (ev_move rfl) ?_
    refine WL_nil ?_
    refine thenE_n ?_
    refine W_block ?_
    refine W_loopC (G := Nat) [(2, _), (3, _), (7, _), (8, _), (9, _), (10, _), (33, _)] ((Subs.c rfl (Subs.c rfl (Subs.c rfl (Subs.c rfl (Subs.c rfl (Subs.c rfl (Subs.c rfl Subs.n)))))))) (fun v => [(34, VI (v : Int))]) (fun v w' => KX (wL0.heap.size) w31 w' ∧ v ≤ A.ends.length ∧ Blk w' wL0.heap.size 4 ((rwB A.ends (stL A.ends g k) v false).map VB)) (fun g9 => A.ends.length - g9) 0 ((Subs.c (lkI rfl (by omega)) Subs.n)) (⟨KX.refl _ _, ⟨Nat.zero_le _, hBn0⟩⟩) ?_
    rintro v wL2 ⟨hRL2, hv', hBn⟩
    have hzL2 := hRL2.size
    replace hA := hA.kx hRL2 (by omega)
    replace hB3 := hB3.kx hRL2 (by omega)
    replace hK := hK.kx hRL2 (by omega)
    replace hnow := hnow.kx hRL2 (by omega)
    replace hE := hE.kx hRL2 (by omega)
    replace hRL0 := hRL0.kx hRL2 (by omega)
    have hrl := rwB_len (ends := A.ends) (P := (stL A.ends g k)) (v := v) (x := false)
    refine W_seq ?_
    refine W_region ?_
    refine WL_q rfl (ev_lss rfl rfl) ?_
    refine WL_nil ?_
    refine thenE_n ?_
    refine W_seq ?_
    refine W_cond rfl (fun hg35 => ?_) (fun hg35 => ?_)
    · have hp35 := of_decide_eq_true hg35
      refine W_skip ?_
      refine thenE_n ?_
      refine W_seq ?_
      refine W_block ?_
      refine W_seq ?_
      refine W_region ?_
      refine WL_q rfl (ev_move rfl) ?_
      refine WL_q rfl (ev_assign rfl) ?_
      refine WL_nil ?_
      refine thenE_n ?_
      refine W_seq ?_
      refine W_region ?_
      refine WL_q rfl (ev_loads st31 sz31 rfl (cellsB hB3) rfl) ?_
      refine WL_q rfl (ev_move rfl) ?_
      have hvl : v < A.ends.length := by omega
      have hnl : (near A.ends (v : Int)).length = A.ends[v].length := by have := near_len (ends := A.ends) (x := (v : Int)) (by simpa using hvl); simpa using this
      have htl := totL_le hvl
      refine WL_m rfl (ev_call rfl (neNear_spec _ A (v : Int) _ hA (by omega) (by omega) (by omega))) ?_
      rintro _ w39 ⟨a39, c39, rfl, hO39, hE39⟩
      have hz39 := hE39.size
      replace hE := hE.trans hE39
      replace hRL0 := hRL0.trans hE39
      replace hRL2 := hRL2.trans hE39
      replace hA := hA.ext hE39
      replace hB3 := hB3.ext hE39
      replace hK := hK.ext hE39
      replace hnow := hnow.ext hE39
      replace hBn := hBn.ext hE39
      have hI39 := own_i hO39
      refine WL_q rfl (ev_len Try.underlying23 rfl) ?_
      refine WL_q rfl (ev_move rfl) ?_
      refine WL_nil ?_
      refine thenE_n ?_
      refine W_block ?_
      refine W_loopC (G := Nat) [(2, _), (3, _), (7, _), (8, _), (9, _), (10, _), (11, _), (33, _), (34, _), (39, _), (40, _)] ((Subs.c rfl (Subs.c rfl (Subs.c rfl (Subs.c rfl (Subs.c rfl (Subs.c rfl (Subs.c rfl (Subs.c rfl (Subs.c rfl (Subs.c rfl (Subs.c rfl Subs.n)))))))))))) (fun j => [(41, VI (j : Int))]) (fun j w' => KX (wL0.heap.size) w39 w' ∧ j ≤ (near A.ends (v : Int)).length ∧ Blk w' wL0.heap.size 4 ((rwB A.ends (stL A.ends g k) v (anyJ A.ends (stL A.ends g k) v j)).map VB)) (fun g9 => (near A.ends (v : Int)).length - g9) 0 ((Subs.c (lkI rfl (by omega)) Subs.n)) (⟨KX.refl _ _, ⟨Nat.zero_le _, by rw [anyJ_zero]; exact hBn⟩⟩) ?_
      rintro j wL4 ⟨hRL4, hj', hBn⟩
      have hzL4 := hRL4.size
      replace hA := hA.kx hRL4 (by omega)
      replace hB3 := hB3.kx hRL4 (by omega)
      replace hK := hK.kx hRL4 (by omega)
      replace hnow := hnow.kx hRL4 (by omega)
      replace hI39 := hI39.kx hRL4 (by omega)
      replace hE := hE.kx hRL4 (by omega)
      replace hRL0 := hRL0.kx hRL4 (by omega)
      replace hRL2 := hRL2.kx hRL4 (by omega)
      have hrl2 := rwB_len (ends := A.ends) (P := (stL A.ends g k)) (v := v) (x := anyJ A.ends (stL A.ends g k) v j)
      refine W_seq ?_
      refine W_region ?_
      refine WL_q rfl (ev_lss rfl rfl) ?_
      refine WL_nil ?_
      refine thenE_n ?_
      refine W_seq ?_
      refine W_cond rfl (fun hg42 => ?_) (fun hg42 => ?_)
      · have hp42 := of_decide_eq_true hg42
        refine W_skip ?_
        refine thenE_n ?_
        refine W_seq ?_
        refine W_block ?_
        refine W_seq ?_
        refine W_region ?_
        have hjl : j < (near A.ends (v : Int)).length := by omega
        obtain ⟨hn1, hn2⟩ := near_ok hk9 (v : Int) _ (List.getElem_mem hjl)
        refine WL_q rfl (ev_indexAddr Try.underlying23 sz3 rfl rfl (hI39.isSome (by omega)) (by omega) (by omega)) ?_
        refine WL_q rfl (ev_load one3 rfl (hI39.cell (i := j) (by omega))) ?_
        refine WL_q rfl (ev_assign rfl) ?_
        refine WL_nil ?_
        refine thenE_n ?_
        refine W_region ?_
        refine WL_q rfl (ev_move rfl) ?_
        refine WL_q rfl (ev_move rfl) ?_
        refine WL_q rfl (ev_move rfl) ?_
        refine WL_q rfl (ev_move rfl) ?_
        refine WL_q rfl (ev_indexAddr Try.underlying73 sz4 rfl rfl rfl (by omega) (by omega)) ?_
        refine WL_q rfl (ev_load one4 rfl (bcell hBn (i := v) (by omega) (by simp))) ?_
        rw [rwB_at]
        refine WL_q rfl (ev_move rfl) ?_
        refine WL_splitv (t := 51) rfl (fun hg50 => ?_) (fun hg50 => ?_)
        · refine WL_no rfl rfl hg50 rfl ?_
          refine WL_no rfl rfl hg50 rfl ?_
          refine WL_no rfl rfl hg50 rfl ?_
          refine WL_no rfl rfl hg50 rfl ?_
          refine WL_q rfl (ev_pick_t rfl hg50 rfl) ?_
          refine WL_q rfl (ev_indexAddr Try.underlying73 sz4 rfl rfl rfl (by omega) (by omega)) ?_
          refine WL_s (ev_store sz4 rfl rfl rfl hBn (by simp; omega)) ?_
          rintro _ w14_13 hS14_13
          have hz14_13 := hS14_13.size
          replace hE := hE.sto hS14_13 (by omega)
          replace hRL0 := hRL0.sto hS14_13 (by omega)
          replace hRL2 := hRL2.sto hS14_13 (by omega)
          replace hRL4 := hRL4.sto hS14_13 (by omega)
          replace hA := hA.sto hS14_13 (by omega)
          replace hB3 := hB3.sto hS14_13 (by omega)
          replace hK := hK.sto hS14_13 (by omega)
          replace hnow := hnow.sto hS14_13 (by omega)
          replace hI39 := hI39.sto hS14_13 (by omega)
          replace hBn := hS14_13.blk
          replace hBn := bset (i := v) (by omega) hBn
          refine WL_nil ?_
          refine blockE_n ?_
          refine thenE_n ?_
          refine W_region ?_
          refine WL_q rfl (ev_add rfl rfl (by omega)) ?_
          refine WL_q rfl (ev_move rfl) ?_
          refine WL_nil ?_
          refine thenE_n ?_
          exact ⟨j + 1, (Subs.c rfl (Subs.c rfl (Subs.c rfl (Subs.c rfl (Subs.c rfl (Subs.c rfl (Subs.c rfl (Subs.c rfl (Subs.c rfl (Subs.c rfl (Subs.c rfl Subs.n))))))))))), (Subs.c (lkI rfl (by omega)) Subs.n), ⟨hRL4, ⟨by omega, by rw [anyJ_yes hg50]; rw [rwB_set] at hBn; exact hBn⟩⟩, by first | omega | (dsimp only; omega)⟩
        · refine WL_qg rfl rfl hg50 rfl (ev_move rfl) ?_
          refine WL_qg rfl rfl hg50 rfl (ev_move rfl) ?_
          refine WL_qg rfl rfl hg50 rfl (ev_indexAddr Try.underlying73 sz4 rfl rfl rfl (by omega) (by omega)) ?_
          refine WL_qg rfl rfl hg50 rfl (ev_load one4 rfl (bcell hnow (i := (near A.ends (v : Int))[j].toNat) (by omega) (by simp))) ?_
          refine WL_q rfl (ev_pick_f rfl hg50 rfl) ?_
          refine WL_q rfl (ev_indexAddr Try.underlying73 sz4 rfl rfl rfl (by omega) (by omega)) ?_
          refine WL_s (ev_store sz4 rfl rfl rfl hBn (by simp; omega)) ?_
          rintro _ w14_13 hS14_13
          have hz14_13 := hS14_13.size
          replace hE := hE.sto hS14_13 (by omega)
          replace hRL0 := hRL0.sto hS14_13 (by omega)
          replace hRL2 := hRL2.sto hS14_13 (by omega)
          replace hRL4 := hRL4.sto hS14_13 (by omega)
          replace hA := hA.sto hS14_13 (by omega)
          replace hB3 := hB3.sto hS14_13 (by omega)
          replace hK := hK.sto hS14_13 (by omega)
          replace hnow := hnow.sto hS14_13 (by omega)
          replace hI39 := hI39.sto hS14_13 (by omega)
          replace hBn := hS14_13.blk
          replace hBn := bset (i := v) (by omega) hBn
          refine WL_nil ?_
          refine blockE_n ?_
          refine thenE_n ?_
          refine W_region ?_
          refine WL_q rfl (ev_add rfl rfl (by omega)) ?_
          refine WL_q rfl (ev_move rfl) ?_
          refine WL_nil ?_
          refine thenE_n ?_
          exact ⟨j + 1, (Subs.c rfl (Subs.c rfl (Subs.c rfl (Subs.c rfl (Subs.c rfl (Subs.c rfl (Subs.c rfl (Subs.c rfl (Subs.c rfl (Subs.c rfl (Subs.c rfl Subs.n))))))))))), (Subs.c (lkI rfl (by omega)) Subs.n), ⟨hRL4, ⟨by omega, by rw [anyJ_no hjl hg50, getD_eq (by omega)]; rw [rwB_set] at hBn; exact hBn⟩⟩, by first | omega | (dsimp only; omega)⟩
      · have hp42 := of_decide_eq_false hg42
        refine W_exit ?_
        refine thenE_x ?_
        refine thenE_x ?_
        refine blockE_hit ?_
        refine blockE_n ?_
        refine thenE_n ?_
        refine W_region ?_
        refine WL_q rfl (ev_add rfl rfl (by omega)) ?_
        refine WL_q rfl (ev_move rfl) ?_
        refine WL_nil ?_
        refine thenE_n ?_
        rw [anyJ_full (by omega), rwB_next] at hBn
        exact ⟨v + 1, (Subs.c rfl (Subs.c rfl (Subs.c rfl (Subs.c rfl (Subs.c rfl (Subs.c rfl (Subs.c rfl Subs.n))))))), (Subs.c (lkI rfl (by omega)) Subs.n), ⟨hRL2, ⟨by omega, hBn⟩⟩, by first | omega | (dsimp only; omega)⟩
    · have hp35 := of_decide_eq_false hg35
      refine W_exit ?_
      refine thenE_x ?_
      refine thenE_x ?_
      refine blockE_hit ?_
      refine thenE_n ?_
      refine W_seq ?_
      refine W_region ?_
      refine WL_q rfl (ev_move rfl) ?_
      refine WL_q rfl (ev_move rfl) ?_
      have hv9 : v = A.ends.length := by omega
      rw [hv9, rwB_full] at hBn
      have hll2 := stL_len (ends := A.ends) (g := g) (k := k + 1)
      have hgd : (bs ++ [wL0.heap.size]).getD (k + 1) 0 = wL0.heap.size := by rw [← hbl]; simp [List.getD]
      refine WL_m rfl (ev_lit1 Try.underlying71 el73 (by decide) (by decide) rfl rfl) ?_
      rintro _ w62 ⟨rfl, hN62⟩
      have hz62 := hN62.size
      replace hE := hE.trans hN62.ext
      replace hRL0 := hRL0.trans hN62.ext
      replace hA := hA.ext hN62.ext
      replace hB3 := hB3.ext hN62.ext
      replace hK := hK.ext hN62.ext
      replace hnow := hnow.ext hN62.ext
      replace hBn := hBn.ext hN62.ext
      have hB62 := hN62.blk
      have hP63 := hK.out.1
      rw [hkl] at hP63
      refine WL_m rfl (ev_append Try.underlying71 el73 rfl (by decide) rfl rfl hP63 (SAt.of_blk (cs := [_]) (ds := []) hB62) rfl (by simp [Value.oneCell']) (by omega) (by unfold maxLen; omega) (by omega)) ?_
      rintro _ w63 ⟨a63, c63, rfl, hO63, hK63, hQ63⟩
      have hz63 := hK63.size
      replace hE := hE.app hK63 (fun q hq => by have := (hP63.block q hq).1; omega)
      replace hRL0 := hRL0.app hK63 (fun q hq => by have := (hP63.block q hq).1; omega)
      replace hA := hA.app hK63 (hP63) (by omega)
      replace hB3 := hB3.app hK63 (hP63) (by omega)
      replace hP63 := hO63
      have hK63 := (hK.snoc (x := stL A.ends g (k + 1)) hBn (by omega) hK63 (by rw [bval, hll2]; exact hO63) (by omega) hQ63 (by omega) (by omega)).to stK_snoc
      refine WL_q rfl (ev_assign rfl) ?_
      refine WL_nil ?_
      refine thenE_n ?_
      refine W_region ?_
      refine WL_q rfl (ev_move rfl) ?_
      refine WL_q rfl (ev_assign rfl) ?_
      refine WL_nil ?_
      refine blockE_n ?_
      refine thenE_n ?_
      refine W_region ?_
      refine WL_q rfl (ev_move rfl) ?_
      refine WL_q rfl (ev_add rfl rfl (by omega)) ?_
      refine WL_q rfl (ev_assign rfl) ?_
      refine WL_nil ?_
      refine thenE_n ?_
      exact ⟨(k + 1, a63, c63, bs ++ [wL0.heap.size]), (Subs.c rfl (Subs.c rfl Subs.n)), (Subs.c (lkV rfl (by rw [hgd])) (Subs.c rfl (Subs.c (lkI rfl (by omega)) Subs.n))), ⟨hRL0, ⟨by omega, hK63⟩⟩, by first | omega | (dsimp only; omega)⟩
  · have hp25 := of_decide_eq_false hg25
    refine W_exit ?_
    refine thenE_x ?_
    refine thenE_x ?_
    refine blockE_hit ?_
    refine thenE_n ?_
    refine W_seq ?_
    refine W_region ?_
    refine WL_q rfl (ev_move rfl) ?_
    refine WL_q rfl (ev_assign rfl) ?_
    refine WL_nil ?_
    refine thenE_n ?_
    refine W_ret ?_
    refine ret1 rfl rfl ?_
    have hk8 : k = q := by omega
    subst hk8
    exact ⟨_, _, bs, rfl, hK.low (by omega), hE⟩

end Go.Proofs.Ytnngpblegbjfdaa
