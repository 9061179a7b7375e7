/- Contracts of the fibres, of IsCovering and of SheetsOf, of the program and of the reference; the walks of FnExactIsCovering and FnExactSheetsOf. -/
import Derived.Test.YtjhgpcbbmhdojaaPortMap
import Derived.Test.YtjhgpcbbmhdojaaOrows
namespace Go.Proofs.Ytjhgpcbbmhdojaa
open Go Go.RowKit

/-- The fibres of m over n nodes, after the first v places. -/
def fibsN (m : List Int) (n : Nat) : Nat → List (List Int)
  | 0 => List.replicate n []
  | v + 1 => match m[v]? with
    | some x => (fibsN m n v).set x.toNat ((fibsN m n v).getD x.toNat [] ++ [(v : Int)])
    | none => fibsN m n v
def fibs (m : List Int) (n : Nat) : List (List Int) := fibsN m n m.length
theorem fibsN_len (m : List Int) (n v : Nat) : (fibsN m n v).length = n := by
  induction v with
  | zero => simp [fibsN]
  | succ v ih => unfold fibsN; split <;> simp [ih]
theorem fibs_len (m : List Int) (n : Nat) : (fibs m n).length = n := fibsN_len m n _
theorem fibsN_succ {m : List Int} {n v : Nat} (h : v < m.length) (h2 : m[v].toNat < (fibsN m n v).length) : fibsN m n (v + 1) = (fibsN m n v).set m[v].toNat ((fibsN m n v)[m[v].toNat] ++ [(v : Int)]) := by
  rw [fibsN, List.getElem?_eq_getElem h]
  simp [List.getD, List.getElem?_eq_getElem h2]
theorem fibsN_row (m : List Int) (n v : Nat) : ∀ r ∈ fibsN m n v, r.length ≤ v := by
  induction v with
  | zero => intro r hr; simp [fibsN] at hr; simp [hr.2]
  | succ v ih =>
    intro r hr
    unfold fibsN at hr
    split at hr
    · rename_i x hx
      rcases List.mem_or_eq_of_mem_set hr with h | h
      · have := ih r h; omega
      · subst h
        have : ((fibsN m n v).getD x.toNat []).length ≤ v := by
          by_cases hb : x.toNat < (fibsN m n v).length
          · have := ih _ (List.getElem_mem hb)
            simpa [List.getD, List.getElem?_eq_getElem hb] using this
          · simp [List.getD, List.getElem?_eq_none (Nat.le_of_not_lt hb)]
        simp; simpa using this
    · have := ih r hr; omega
theorem own_snoc {lo : Nat} {w : World} {E : TypeId} {a : Option Addr} {n c : Nat} {xs : List Int} {x : Int} (h : Own lo w E 1 a n c (xs.flatMap intF ++ [VI x])) : Own lo w E 1 a n c ((xs ++ [x]).flatMap intF) := by
  rw [List.flatMap_append]; exact h
theorem Own.sto {lo : Nat} {w w' : World} {E : TypeId} {sz : Nat} {a : Option Addr} {n c : Nat} {cs : List Value} {b : Nat} {T : TypeId} {ds : List Value} (h : Own lo w E sz a n c cs) (k : Sto w w' b T ds) (hb : b < lo) : Own lo w' E sz a n c cs :=
  h.keep k.keep fun q hq => by have := (h.block q hq).1; show q.block ≠ b; omega
/-- No fibre is empty. -/
def onto (m : List Int) (n : Nat) : Bool := !((fibs m n).any fun r => decide ((r.length : Int) = 0))
theorem onto_no {m : List Int} {n i : Nat} (h : i < (fibs m n).length) (h0 : (((fibs m n)[i]).length : Int) = 0) : false = onto m n := by
  have : (fibs m n).any (fun r => decide ((r.length : Int) = 0)) = true := List.any_eq_true.2 ⟨_, List.getElem_mem h, by simpa using h0⟩
  unfold onto; rw [this]; rfl
theorem onto_yes {m : List Int} {n : Nat} (h : ∀ j (h2 : j < (fibs m n).length), (((fibs m n)[j]).length : Int) ≠ 0) : true = onto m n := by
  have : (fibs m n).any (fun r => decide ((r.length : Int) = 0)) = false := by
    rw [List.any_eq_false]
    intro r hr
    obtain ⟨j, hj, rfl⟩ := List.mem_iff_getElem.1 hr
    simpa using h j hj
  unfold onto; rw [this]; rfl

set_option maxRecDepth 100000 in
theorem IndexFunc_row {lo hi : Nat} (a : Option Addr) (c : Nat) (xs : List (List Int)) (f : FuncId) (cap : List Value) (p : List Int → Bool) (w : World) (hx : Intss lo hi w a c xs) (hm : (xs.length : Int) < 9223372036854775807) (hp : ∀ i (h : i < xs.length) (a2 : Option Addr) (c2 : Nat) (w1 : World), Ext w w1 → Ints lo hi w1 a2 c2 xs[i] → Fn Try.prog f ([] ++ [Value.slice a2 xs[i].length c2] ++ cap).toArray w1 (fun v w2 => v = VB (p xs[i]) ∧ Ext w1 w2)) :
    Fn Try.prog 137 #[.slice a xs.length c, .func (.func f) #[] cap.toArray] w (fun v w' => v = VI (idxF p xs) ∧ Ext w w') := by
  have hE := Ext.refl w
  refine Fn_of Try.func137 rfl rfl (by kernel_rfl) rfl ?_
  refine W_seq ?_
  refine W_region ?_
  refine WL_q rfl (ev_assign rfl) ?_
  refine WL_nil ?_
  refine thenE_n ?_
  refine W_seq ?_
  refine W_seq ?_
  refine W_region ?_
  refine WL_q rfl (ev_move rfl) ?_
  refine WL_q rfl (ev_len Try.underlying31 rfl) ?_
  refine WL_q rfl (ev_move rfl) ?_
  refine WL_nil ?_
  refine thenE_n ?_
  refine W_block ?_
  refine W_loopC (G := Nat) [(0, _), (1, _), (7, _)] ((Subs.c rfl (Subs.c rfl (Subs.c rfl Subs.n)))) (fun i => [(8, VI (i : Int))]) (fun i w' => Ext w w' ∧ i ≤ xs.length ∧ ∀ j (_h : j < i) (h2 : j < xs.length), p xs[j] = false) (fun i => xs.length - i) 0 ((Subs.c (lkI rfl (by omega)) Subs.n)) (⟨Ext.refl _, ⟨by omega, fun j h => by omega⟩⟩) ?_
  rintro i wL0 ⟨hRL0, hi, hJ⟩
  have hzL0 := hRL0.size
  replace hE := hE.trans hRL0
  replace hx := hx.ext hRL0
  refine W_seq ?_
  refine W_region ?_
  refine WL_q rfl (ev_lss rfl rfl) ?_
  refine WL_nil ?_
  refine thenE_n ?_
  refine W_seq ?_
  refine W_cond rfl (fun hg9 => ?_) (fun hg9 => ?_)
  · have hp9 := of_decide_eq_true hg9
    refine W_skip ?_
    refine thenE_n ?_
    refine W_seq ?_
    refine W_block ?_
    refine W_seq ?_
    refine W_region ?_
    refine WL_q rfl (ev_move rfl) ?_
    refine WL_q rfl (ev_assign rfl) ?_
    refine WL_nil ?_
    refine thenE_n ?_
    refine W_seq ?_
    refine W_region ?_
    refine WL_q rfl (ev_move rfl) ?_
    refine WL_q rfl (ev_move rfl) ?_
    refine WL_q rfl (ev_move rfl) ?_
    obtain ⟨a2, c2, hc2, hr2⟩ := hx.row (i := i) (by omega)
    refine WL_q rfl (ev_indexAddr Try.underlying31 sz33 rfl rfl (hx.isSome (by omega)) (by omega) (by omega)) ?_
    refine WL_q rfl (ev_load one33 rfl (hc2)) ?_
    refine WL_m rfl (ev_callv rfl rfl (hp i (by omega) _ _ _ hE hr2)) ?_
    rintro _ w16 ⟨rfl, hE16⟩
    have hz16 := hE16.size
    replace hE := hE.trans hE16
    replace hRL0 := hRL0.trans hE16
    replace hx := hx.ext hE16
    refine WL_nil ?_
    refine thenE_n ?_
    refine W_cond rfl (fun hg16 => ?_) (fun hg16 => ?_)
    · refine W_seq ?_
      refine W_region ?_
      refine WL_q rfl (ev_move rfl) ?_
      refine WL_q rfl (ev_assign rfl) ?_
      refine WL_nil ?_
      refine thenE_n ?_
      refine W_ret ?_
      refine blockE_r ?_
      refine thenE_r ?_
      refine thenE_r ?_
      refine blockE_r ?_
      refine thenE_r ?_
      refine ret1 rfl rfl ?_
      first | exact ⟨vi (idxF_at (by omega) hg16 hJ).symm, hE⟩ | exact ⟨vi (idxF_none fun j h2 => hJ j (by omega) h2).symm, hE⟩
    · refine W_skip ?_
      refine blockE_n ?_
      refine thenE_n ?_
      refine W_region ?_
      refine WL_q rfl (ev_add rfl rfl (by omega)) ?_
      refine WL_q rfl (ev_move rfl) ?_
      refine WL_nil ?_
      refine thenE_n ?_
      exact ⟨i + 1, (Subs.c rfl (Subs.c rfl (Subs.c rfl Subs.n))), (Subs.c (lkI rfl (by omega)) Subs.n), ⟨hRL0, ⟨by omega, dsucc (P := fun j h2 => p xs[j] = false) hJ (by omega) hg16⟩⟩, by first | omega | (dsimp only; omega)⟩
  · have hp9 := of_decide_eq_false hg9
    refine W_exit ?_
    refine thenE_x ?_
    refine thenE_x ?_
    refine blockE_hit ?_
    refine thenE_n ?_
    refine W_seq ?_
    refine W_region ?_
    refine WL_q rfl (ev_assign rfl) ?_
    refine WL_nil ?_
    refine thenE_n ?_
    refine W_ret ?_
    refine ret1 rfl rfl ?_
    first | exact ⟨vi (idxF_at (by omega) hg16 hJ).symm, hE⟩ | exact ⟨vi (idxF_none fun j h2 => hJ j (by omega) h2).symm, hE⟩

set_option maxRecDepth 100000 in
theorem ContainsFunc_row {lo hi : Nat} (a : Option Addr) (c : Nat) (xs : List (List Int)) (f : FuncId) (cap : List Value) (p : List Int → Bool) (w : World) (hx : Intss lo hi w a c xs) (hm : (xs.length : Int) < 9223372036854775807) (hp : ∀ i (h : i < xs.length) (a2 : Option Addr) (c2 : Nat) (w1 : World), Ext w w1 → Ints lo hi w1 a2 c2 xs[i] → Fn Try.prog f ([] ++ [Value.slice a2 xs[i].length c2] ++ cap).toArray w1 (fun v w2 => v = VB (p xs[i]) ∧ Ext w1 w2)) :
    Fn Try.prog 101 #[.slice a xs.length c, .func (.func f) #[] cap.toArray] w (fun v w' => v = VB (xs.any p) ∧ Ext w w') := by
  have hE := Ext.refl w
  refine Fn_of Try.func101 rfl rfl (by kernel_rfl) rfl ?_
  refine W_seq ?_
  refine W_region ?_
  refine WL_q rfl (ev_assign rfl) ?_
  refine WL_nil ?_
  refine thenE_n ?_
  refine W_seq ?_
  refine W_region ?_
  refine WL_q rfl (ev_move rfl) ?_
  refine WL_q rfl (ev_move rfl) ?_
  refine WL_m rfl (ev_call rfl (IndexFunc_row _ _ _ _ _ p _ hx (by omega) hp)) ?_
  rintro _ w7 ⟨rfl, hE7⟩
  have hz7 := hE7.size
  replace hE := hE.trans hE7
  replace hx := hx.ext hE7
  refine WL_q rfl (ev_geq rfl rfl) ?_
  refine WL_q rfl (ev_assign rfl) ?_
  refine WL_nil ?_
  refine thenE_n ?_
  refine W_ret ?_
  refine ret1 rfl rfl ?_
  exact ⟨vb idxF_any, hE⟩

set_option maxRecDepth 100000 in
theorem fibres_spec {lo hi : Nat} (a : Option Addr) (c : Nat) (m : List Int) (n : Nat) (w : World) (hx : Ints lo hi w a c m) (hhi : hi ≤ w.heap.size) (hr : ∀ x ∈ m, 0 ≤ x ∧ x ≤ (n : Int) - 1) (hm : m.length ≤ 1048576) (hn : n ≤ 1048576) :
    Fn Try.prog 134 #[.slice a m.length c, VI (n : Int)] w (fun v w' => ∃ b, v = .slice (some ⟨b, 0, none⟩) n n ∧ ORows intF 1 w.heap.size w'.heap.size w' 3 b (fibs m n) ∧ Ext w w') := by
  have hE := Ext.refl w
  refine Fn_of Try.func134 rfl rfl (by kernel_rfl) rfl ?_
  refine W_seq ?_
  refine W_region ?_
  refine WL_q rfl (ev_assign rfl) ?_
  refine WL_nil ?_
  refine thenE_n ?_
  refine W_seq ?_
  refine W_region ?_
  refine WL_q rfl (ev_move rfl) ?_
  refine WL_m rfl (ev_makeN Try.underlying31 el33 rfl rfl rfl (by omega) (by omega)) ?_
  rintro _ w9 ⟨rfl, hN9⟩
  have hz9 := hN9.size
  replace hE := hE.trans hN9.ext
  replace hx := hx.ext hN9.ext
  have hB9 := hN9.blk
  have hR0 := ORows.made (f := intF) (sz := 1) (E := 3) hB9 (Nat.le_refl _) hB9.lt
  refine WL_q rfl (ev_assign rfl) ?_
  refine WL_nil ?_
  refine thenE_n ?_
  refine W_seq ?_
  refine W_seq ?_
  refine W_region ?_
  refine WL_q rfl (ev_move rfl) ?_
  refine WL_q rfl (ev_len Try.underlying33 rfl) ?_
  refine WL_q rfl (ev_move rfl) ?_
  refine WL_nil ?_
  refine thenE_n ?_
  refine W_block ?_
  refine W_loopC (G := Nat) [(5, _), (10, _), (11, _)] ((Subs.c rfl (Subs.c rfl (Subs.c rfl Subs.n)))) (fun i => [(12, VI (i : Int))]) (fun i w' => KX (w.heap.size) w9 w' ∧ i ≤ m.length ∧ ORows intF 1 w.heap.size w'.heap.size w' 3 w.heap.size (fibsN m n i)) (fun i => m.length - i) 0 ((Subs.c (lkI rfl (by omega)) Subs.n)) (⟨KX.refl _ _, ⟨by omega, hR0⟩⟩) ?_
  rintro i wL0 ⟨hRL0, hi', hR⟩
  have hzL0 := hRL0.size
  replace hx := hx.kx hRL0 (by omega)
  replace hE := hE.kx hRL0 (by omega)
  refine W_seq ?_
  refine W_region ?_
  refine WL_q rfl (ev_lss rfl rfl) ?_
  refine WL_nil ?_
  refine thenE_n ?_
  refine W_seq ?_
  refine W_cond rfl (fun hg13 => ?_) (fun hg13 => ?_)
  · have hp13 := of_decide_eq_true hg13
    refine W_skip ?_
    refine thenE_n ?_
    refine W_seq ?_
    refine W_block ?_
    refine W_seq ?_
    refine W_region ?_
    refine WL_q rfl (ev_move rfl) ?_
    have hlt : i < m.length := by omega
    have hrg := hr _ (List.getElem_mem hlt)
    refine WL_q rfl (ev_indexAddr Try.underlying33 sz3 rfl rfl (hx.isSome (by omega)) (by omega) (by omega)) ?_
    refine WL_q rfl (ev_load one3 rfl (hx.cell (i := i) (by omega))) ?_
    refine WL_q rfl (ev_assign rfl) ?_
    refine WL_q rfl (ev_assign rfl) ?_
    refine WL_nil ?_
    refine thenE_n ?_
    refine W_region ?_
    refine WL_q rfl (ev_move rfl) ?_
    refine WL_q rfl (ev_move rfl) ?_
    refine WL_q rfl (ev_move rfl) ?_
    refine WL_q rfl (ev_move rfl) ?_
    have hfl := fibsN_len m n i
    obtain ⟨T, vs, hlo, hhi9, hBk, hOA⟩ := hR
    have hvl := hOA.len
    have hv2 : m[i].toNat < (fibsN m n i).length := by omega
    have hv3 : m[i].toNat < vs.length := by omega
    have hrl := fibsN_row m n i _ (List.getElem_mem hv2)
    have hO := hOA.own _ hv3 hv2
    refine WL_q rfl (ev_indexAddr Try.underlying31 sz33 rfl rfl rfl hrg.1 (by omega)) ?_
    refine WL_q rfl (ev_load one33 rfl (zip_cell hBk hvl hv2)) ?_
    refine WL_q rfl (ev_move rfl) ?_
    refine WL_m rfl (ev_lit1 Try.underlying33 el3 (by decide) (by decide) rfl rfl) ?_
    rintro _ w24 ⟨rfl, hN24⟩
    have hz24 := hN24.size
    replace hE := hE.trans hN24.ext
    replace hRL0 := hRL0.trans hN24.ext
    replace hx := hx.ext hN24.ext
    replace hBk := hBk.ext hN24.ext
    replace hOA := hOA.ext hN24.ext
    replace hO := hO.ext hN24.ext
    have hB24 := hN24.blk
    refine WL_m rfl (ev_append Try.underlying33 el3 rfl (by decide) rfl rfl hO (SAt.of_blk (cs := [_]) (ds := []) hB24) rfl (by simp [Value.oneCell']) (by omega) (by unfold maxLen; omega) (by omega)) ?_
    rintro _ w25 ⟨a25, c25, rfl, hO25, hK25, hQ25⟩
    have hz25 := hK25.size
    replace hE := hE.app hK25 (fun q hq => by have := (hO.block q hq).1; omega)
    replace hRL0 := hRL0.app hK25 (fun q hq => by have := (hO.block q hq).1; omega)
    replace hx := hx.app hK25 (hO) (by omega)
    replace hBk := hBk.app hK25 (hO) (by omega)
    replace hO := hO25
    refine WL_q rfl (ev_indexAddr Try.underlying31 sz33 rfl rfl rfl hrg.1 (by omega)) ?_
    refine WL_s (ev_store sz33 rfl rfl rfl hBk (by simp; omega)) ?_
    rintro _ w5_10 hS5_10
    have hz5_10 := hS5_10.size
    replace hE := hE.sto hS5_10 (by omega)
    replace hRL0 := hRL0.sto hS5_10 (by omega)
    replace hx := hx.sto hS5_10 (by omega)
    replace hO := hO.sto hS5_10 (by omega)
    replace hBk := hS5_10.blk
    have hR2 := ORows.put (ys := (fibsN m n i)[m[i].toNat] ++ [(i : Int)]) hlo hOA (by omega) hv3 hK25 (own_snoc hO25) (by simp) hQ25 hS5_10 (by omega) hBk
    refine WL_nil ?_
    refine blockE_n ?_
    refine thenE_n ?_
    refine W_region ?_
    refine WL_q rfl (ev_add rfl rfl (by omega)) ?_
    refine WL_q rfl (ev_move rfl) ?_
    refine WL_nil ?_
    refine thenE_n ?_
    exact ⟨i + 1, (Subs.c rfl (Subs.c rfl (Subs.c rfl Subs.n))), (Subs.c (lkI rfl (by omega)) Subs.n), ⟨hRL0, ⟨by omega, by rw [fibsN_succ hlt hv2]; exact hR2⟩⟩, by first | omega | (dsimp only; omega)⟩
  · have hp13 := of_decide_eq_false hg13
    refine W_exit ?_
    refine thenE_x ?_
    refine thenE_x ?_
    refine blockE_hit ?_
    refine thenE_n ?_
    refine W_seq ?_
    refine W_region ?_
    refine WL_q rfl (ev_move rfl) ?_
    refine WL_q rfl (ev_assign rfl) ?_
    refine WL_nil ?_
    refine thenE_n ?_
    refine W_ret ?_
    refine ret1 rfl rfl ?_
    refine ⟨_, rfl, ?_, hE⟩; have hi9 : i = m.length := by omega
    subst hi9; exact hR

set_option maxRecDepth 100000 in
theorem coFibres_spec {lo hi : Nat} (h : NA) (N : Net) (a : Option Addr) (c : Nat) (m : List Int) (w : World) (hx : Ints lo hi w a c m) (hhi : hi ≤ w.heap.size) (hr : ∀ x ∈ m, 0 ≤ x ∧ x ≤ (N.ends.length : Int) - 1) (hm : m.length ≤ 1048576) (hn : N.ends.length ≤ 1048576) :
    Fn Try.prog 99 #[netV h N, .slice a m.length c] w (fun v w' => ∃ b, v = .slice (some ⟨b, 0, none⟩) N.ends.length N.ends.length ∧ ORows intF 1 w.heap.size w'.heap.size w' 3 b (fibs m N.ends.length) ∧ Ext w w') := by
  have hE := Ext.refl w
  refine Fn_of Try.func99 rfl rfl (by kernel_rfl) rfl ?_
  refine W_seq ?_
  refine W_region ?_
  refine WL_m rfl (ev_box rfl) ?_
  rintro _ w2 ⟨rfl, hN2⟩
  have hz2 := hN2.size
  replace hE := hE.trans hN2.ext
  replace hx := hx.ext hN2.ext
  have hB2 : Blk w2 _ _ [_, _, _] := hN2.blk
  refine WL_q rfl (ev_assign rfl) ?_
  refine WL_nil ?_
  refine thenE_n ?_
  refine W_seq ?_
  refine W_region ?_
  refine WL_q rfl (ev_fieldAddr fo60_0 rfl) ?_
  refine WL_q rfl (ev_load one58 rfl (hB2.cell rfl)) ?_
  refine WL_q rfl (ev_len Try.underlying58 rfl) ?_
  refine WL_m rfl (ev_makeN Try.underlying31 el33 rfl rfl rfl (by omega) (by omega)) ?_
  rintro _ w11 ⟨rfl, hN11⟩
  have hz11 := hN11.size
  replace hE := hE.trans hN11.ext
  replace hx := hx.ext hN11.ext
  replace hB2 := hB2.ext hN11.ext
  have hB11 := hN11.blk
  have hR0 := ORows.made (f := intF) (sz := 1) (E := 3) hB11 (Nat.le_refl _) hB11.lt
  refine WL_q rfl (ev_assign rfl) ?_
  refine WL_nil ?_
  refine thenE_n ?_
  refine W_seq ?_
  refine W_seq ?_
  refine W_region ?_
  refine WL_q rfl (ev_move rfl) ?_
  refine WL_q rfl (ev_len Try.underlying33 rfl) ?_
  refine WL_q rfl (ev_move rfl) ?_
  refine WL_nil ?_
  refine thenE_n ?_
  refine W_block ?_
  refine W_loopC (G := Nat) [(5, _), (12, _), (13, _)] ((Subs.c rfl (Subs.c rfl (Subs.c rfl Subs.n)))) (fun i => [(14, VI (i : Int))]) (fun i w' => KX (w2.heap.size) w11 w' ∧ i ≤ m.length ∧ ORows intF 1 w2.heap.size w'.heap.size w' 3 w2.heap.size (fibsN m N.ends.length i)) (fun i => m.length - i) 0 ((Subs.c (lkI rfl (by omega)) Subs.n)) (⟨KX.refl _ _, ⟨by omega, hR0⟩⟩) ?_
  rintro i wL0 ⟨hRL0, hi', hR⟩
  have hzL0 := hRL0.size
  replace hx := hx.kx hRL0 (by omega)
  replace hB2 := hB2.kx hRL0 (by omega)
  replace hE := hE.kx hRL0 (by omega)
  refine W_seq ?_
  refine W_region ?_
  refine WL_q rfl (ev_lss rfl rfl) ?_
  refine WL_nil ?_
  refine thenE_n ?_
  refine W_seq ?_
  refine W_cond rfl (fun hg15 => ?_) (fun hg15 => ?_)
  · have hp15 := of_decide_eq_true hg15
    refine W_skip ?_
    refine thenE_n ?_
    refine W_seq ?_
    refine W_block ?_
    refine W_seq ?_
    refine W_region ?_
    refine WL_q rfl (ev_move rfl) ?_
    have hlt : i < m.length := by omega
    have hrg := hr _ (List.getElem_mem hlt)
    refine WL_q rfl (ev_indexAddr Try.underlying33 sz3 rfl rfl (hx.isSome (by omega)) (by omega) (by omega)) ?_
    refine WL_q rfl (ev_load one3 rfl (hx.cell (i := i) (by omega))) ?_
    refine WL_q rfl (ev_assign rfl) ?_
    refine WL_q rfl (ev_assign rfl) ?_
    refine WL_nil ?_
    refine thenE_n ?_
    refine W_region ?_
    refine WL_q rfl (ev_move rfl) ?_
    refine WL_q rfl (ev_move rfl) ?_
    refine WL_q rfl (ev_move rfl) ?_
    refine WL_q rfl (ev_move rfl) ?_
    have hfl := fibsN_len m N.ends.length i
    obtain ⟨T, vs, hlo, hhi9, hBk, hOA⟩ := hR
    have hvl := hOA.len
    have hv2 : m[i].toNat < (fibsN m N.ends.length i).length := by omega
    have hv3 : m[i].toNat < vs.length := by omega
    have hrl := fibsN_row m N.ends.length i _ (List.getElem_mem hv2)
    have hO := hOA.own _ hv3 hv2
    refine WL_q rfl (ev_indexAddr Try.underlying31 sz33 rfl rfl rfl hrg.1 (by omega)) ?_
    refine WL_q rfl (ev_load one33 rfl (zip_cell hBk hvl hv2)) ?_
    refine WL_q rfl (ev_move rfl) ?_
    refine WL_m rfl (ev_lit1 Try.underlying33 el3 (by decide) (by decide) rfl rfl) ?_
    rintro _ w26 ⟨rfl, hN26⟩
    have hz26 := hN26.size
    replace hE := hE.trans hN26.ext
    replace hRL0 := hRL0.trans hN26.ext
    replace hx := hx.ext hN26.ext
    replace hB2 := hB2.ext hN26.ext
    replace hBk := hBk.ext hN26.ext
    replace hOA := hOA.ext hN26.ext
    replace hO := hO.ext hN26.ext
    have hB26 := hN26.blk
    refine WL_m rfl (ev_append Try.underlying33 el3 rfl (by decide) rfl rfl hO (SAt.of_blk (cs := [_]) (ds := []) hB26) rfl (by simp [Value.oneCell']) (by omega) (by unfold maxLen; omega) (by omega)) ?_
    rintro _ w27 ⟨a27, c27, rfl, hO27, hK27, hQ27⟩
    have hz27 := hK27.size
    replace hE := hE.app hK27 (fun q hq => by have := (hO.block q hq).1; omega)
    replace hRL0 := hRL0.app hK27 (fun q hq => by have := (hO.block q hq).1; omega)
    replace hx := hx.app hK27 (hO) (by omega)
    replace hB2 := hB2.app hK27 (hO) (by omega)
    replace hBk := hBk.app hK27 (hO) (by omega)
    replace hO := hO27
    refine WL_q rfl (ev_indexAddr Try.underlying31 sz33 rfl rfl rfl hrg.1 (by omega)) ?_
    refine WL_s (ev_store sz33 rfl rfl rfl hBk (by simp; omega)) ?_
    rintro _ w5_10 hS5_10
    have hz5_10 := hS5_10.size
    replace hE := hE.sto hS5_10 (by omega)
    replace hRL0 := hRL0.sto hS5_10 (by omega)
    replace hx := hx.sto hS5_10 (by omega)
    replace hB2 := hB2.sto hS5_10 (by omega)
    replace hO := hO.sto hS5_10 (by omega)
    replace hBk := hS5_10.blk
    have hR2 := ORows.put (ys := (fibsN m N.ends.length i)[m[i].toNat] ++ [(i : Int)]) hlo hOA (by omega) hv3 hK27 (own_snoc hO27) (by simp) hQ27 hS5_10 (by omega) hBk
    refine WL_nil ?_
    refine blockE_n ?_
    refine thenE_n ?_
    refine W_region ?_
    refine WL_q rfl (ev_add rfl rfl (by omega)) ?_
    refine WL_q rfl (ev_move rfl) ?_
    refine WL_nil ?_
    refine thenE_n ?_
    exact ⟨i + 1, (Subs.c rfl (Subs.c rfl (Subs.c rfl Subs.n))), (Subs.c (lkI rfl (by omega)) Subs.n), ⟨hRL0, ⟨by omega, by rw [fibsN_succ hlt hv2]; exact hR2⟩⟩, by first | omega | (dsimp only; omega)⟩
  · have hp15 := of_decide_eq_false hg15
    refine W_exit ?_
    refine thenE_x ?_
    refine thenE_x ?_
    refine blockE_hit ?_
    refine thenE_n ?_
    refine W_seq ?_
    refine W_region ?_
    refine WL_q rfl (ev_move rfl) ?_
    refine WL_q rfl (ev_assign rfl) ?_
    refine WL_nil ?_
    refine thenE_n ?_
    refine W_ret ?_
    refine ret1 rfl rfl ?_
    refine ⟨_, rfl, ?_, hE⟩; have hi9 : i = m.length := by omega
    subst hi9; exact hR.mono (by omega) (Nat.le_refl _)

set_option maxRecDepth 100000 in
theorem coOnto_spec {lo hi : Nat} (h : NA) (N : Net) (a : Option Addr) (c : Nat) (m : List Int) (w : World) (hx : Ints lo hi w a c m) (hhi : hi ≤ w.heap.size) (hr : ∀ x ∈ m, 0 ≤ x ∧ x ≤ (N.ends.length : Int) - 1) (hm : m.length ≤ 1048576) (hn : N.ends.length ≤ 1048576) :
    Fn Try.prog 96 #[netV h N, .slice a m.length c] w (fun v w' => v = VB (onto m N.ends.length) ∧ Ext w w') := by
  have hfl := fibs_len m N.ends.length
  have hE := Ext.refl w
  refine Fn_of Try.func96 rfl rfl (by kernel_rfl) rfl ?_
  refine W_seq ?_
  refine W_region ?_
  refine WL_m rfl (ev_box rfl) ?_
  rintro _ w2 ⟨rfl, hN2⟩
  have hz2 := hN2.size
  replace hE := hE.trans hN2.ext
  replace hx := hx.ext hN2.ext
  have hB2 : Blk w2 _ _ [_, _, _] := hN2.blk
  refine WL_q rfl (ev_assign rfl) ?_
  refine WL_nil ?_
  refine thenE_n ?_
  refine W_seq ?_
  refine W_seq ?_
  refine W_region ?_
  refine WL_q rfl (ev_loads st60 sz60 rfl (cellsB hB2) rfl) ?_
  refine WL_q rfl (ev_move rfl) ?_
  refine WL_m rfl (ev_call rfl (coFibres_spec h N _ _ m _ hx (by omega) hr (by omega) (by omega))) ?_
  rintro _ w9 ⟨b9, rfl, hR9, hE9⟩
  have hz9 := hE9.size
  replace hE := hE.trans hE9
  replace hx := hx.ext hE9
  replace hB2 := hB2.ext hE9
  have hI := hR9.is (c := N.ends.length) (by omega)
  refine WL_q rfl (ev_len Try.underlying31 rfl) ?_
  refine WL_q rfl (ev_move rfl) ?_
  refine WL_nil ?_
  refine thenE_n ?_
  refine W_block ?_
  refine W_loopC (G := Nat) [(9, _), (10, _)] ((Subs.c rfl (Subs.c rfl Subs.n))) (fun i => [(11, VI (i : Int))]) (fun i w' => Ext w9 w' ∧ i ≤ N.ends.length ∧ ∀ j (_h : j < i) (h2 : j < (fibs m N.ends.length).length), (((fibs m N.ends.length)[j]).length : Int) ≠ 0) (fun i => N.ends.length - i) 0 ((Subs.c (lkI rfl (by omega)) Subs.n)) (⟨Ext.refl _, ⟨by omega, fun j h => by omega⟩⟩) ?_
  rintro i wL0 ⟨hRL0, hi', hJ⟩
  have hzL0 := hRL0.size
  replace hE := hE.trans hRL0
  replace hx := hx.ext hRL0
  replace hB2 := hB2.ext hRL0
  replace hI := hI.ext hRL0
  refine W_seq ?_
  refine W_region ?_
  refine WL_q rfl (ev_lss rfl rfl) ?_
  refine WL_nil ?_
  refine thenE_n ?_
  refine W_seq ?_
  refine W_cond rfl (fun hg12 => ?_) (fun hg12 => ?_)
  · have hp12 := of_decide_eq_true hg12
    refine W_skip ?_
    refine thenE_n ?_
    refine W_seq ?_
    refine W_block ?_
    refine W_seq ?_
    refine W_region ?_
    obtain ⟨a2, c2, hc2, hr2⟩ := hI.row (i := i) (by omega)
    refine WL_q rfl (ev_indexAddr Try.underlying31 sz33 rfl rfl (hI.isSome (by omega)) (by omega) (by omega)) ?_
    refine WL_q rfl (ev_load one33 rfl (hc2)) ?_
    refine WL_q rfl (ev_assign rfl) ?_
    refine WL_nil ?_
    refine thenE_n ?_
    refine W_seq ?_
    refine W_region ?_
    refine WL_q rfl (ev_move rfl) ?_
    refine WL_q rfl (ev_len Try.underlying33 rfl) ?_
    refine WL_q rfl (ev_eql rfl rfl) ?_
    refine WL_nil ?_
    refine thenE_n ?_
    refine W_cond rfl (fun hg17 => ?_) (fun hg17 => ?_)
    · have hp17 := of_decide_eq_true hg17
      refine W_seq ?_
      refine W_region ?_
      refine WL_q rfl (ev_assign rfl) ?_
      refine WL_nil ?_
      refine thenE_n ?_
      refine W_ret ?_
      refine blockE_r ?_
      refine thenE_r ?_
      refine thenE_r ?_
      refine blockE_r ?_
      refine thenE_r ?_
      refine ret1 rfl rfl ?_
      first | (exact ⟨vb (onto_no (by omega) hp17), hE⟩) | (exact ⟨vb (onto_yes fun j h2 => hJ j (by omega) h2), hE⟩)
    · have hp17 := of_decide_eq_false hg17
      refine W_skip ?_
      refine blockE_n ?_
      refine thenE_n ?_
      refine W_region ?_
      refine WL_q rfl (ev_add rfl rfl (by omega)) ?_
      refine WL_q rfl (ev_move rfl) ?_
      refine WL_nil ?_
      refine thenE_n ?_
      exact ⟨i + 1, (Subs.c rfl (Subs.c rfl Subs.n)), (Subs.c (lkI rfl (by omega)) Subs.n), ⟨hRL0, ⟨by omega, dsucc (P := fun j h2 => (((fibs m N.ends.length)[j]).length : Int) ≠ 0) hJ (by omega) hp17⟩⟩, by first | omega | (dsimp only; omega)⟩
  · have hp12 := of_decide_eq_false hg12
    refine W_exit ?_
    refine thenE_x ?_
    refine thenE_x ?_
    refine blockE_hit ?_
    refine thenE_n ?_
    refine W_seq ?_
    refine W_region ?_
    refine WL_q rfl (ev_assign rfl) ?_
    refine WL_nil ?_
    refine thenE_n ?_
    refine W_ret ?_
    refine ret1 rfl rfl ?_
    first | (exact ⟨vb (onto_no (by omega) hp17), hE⟩) | (exact ⟨vb (onto_yes fun j h2 => hJ j (by omega) h2), hE⟩)

set_option maxRecDepth 100000 in
theorem covers_1 (a : Option Addr) (n c : Nat) (w : World) :
    Fn Try.prog 135 #[.slice a n c] w (fun v w' => v = VB (decide ((n : Int) = 0)) ∧ Ext w w') := by
  have hE := Ext.refl w
  refine Fn_of Try.func135 rfl rfl (by kernel_rfl) rfl ?_
  refine W_seq ?_
  refine W_region ?_
  refine WL_q rfl (ev_assign rfl) ?_
  refine WL_nil ?_
  refine thenE_n ?_
  refine W_seq ?_
  refine W_region ?_
  refine WL_q rfl (ev_move rfl) ?_
  refine WL_q rfl (ev_len Try.underlying33 rfl) ?_
  refine WL_q rfl (ev_eql rfl rfl) ?_
  refine WL_q rfl (ev_assign rfl) ?_
  refine WL_nil ?_
  refine thenE_n ?_
  refine W_ret ?_
  refine ret1 rfl rfl ?_
  exact ⟨rfl, hE⟩

theorem rows_len {lo hi : Nat} {w : World} {a : Option Addr} {c n : Nat} {xs : List (List Int)} {f : FuncId} {cap : List Value} {p : List Int → Bool} (hl : n = xs.length) (hx : Intss lo hi w a c xs) (hm : (xs.length : Int) < 9223372036854775807)
    (hp : ∀ i (h : i < xs.length) (a2 : Option Addr) (c2 : Nat) (w1 : World), Ext w w1 → Ints lo hi w1 a2 c2 xs[i] → Fn Try.prog f ([] ++ [Value.slice a2 xs[i].length c2] ++ cap).toArray w1 (fun v w2 => v = VB (p xs[i]) ∧ Ext w1 w2)) :
    Fn Try.prog 101 #[.slice a n c, .func (.func f) #[] cap.toArray] w (fun v w' => v = VB (xs.any p) ∧ Ext w w') := by
  subst hl; exact ContainsFunc_row _ _ _ _ _ _ _ hx hm hp

set_option maxRecDepth 100000 in
theorem covers_spec {lo hi : Nat} (h : NA) (N : Net) (a : Option Addr) (c : Nat) (m : List Int) (w : World) (hx : Ints lo hi w a c m) (hhi : hi ≤ w.heap.size) (hr : ∀ x ∈ m, 0 ≤ x ∧ x ≤ (N.ends.length : Int) - 1) (hm : m.length ≤ 1048576) (hn : N.ends.length ≤ 1048576) :
    Fn Try.prog 97 #[netV h N, .slice a m.length c] w (fun v w' => v = VB (onto m N.ends.length) ∧ Ext w w') := by
  have hfl := fibs_len m N.ends.length
  have hE := Ext.refl w
  refine Fn_of Try.func97 rfl rfl (by kernel_rfl) rfl ?_
  refine W_seq ?_
  refine W_region ?_
  refine WL_m rfl (ev_box rfl) ?_
  rintro _ w2 ⟨rfl, hN2⟩
  have hz2 := hN2.size
  replace hE := hE.trans hN2.ext
  replace hx := hx.ext hN2.ext
  have hB2 : Blk w2 _ _ [_, _, _] := hN2.blk
  refine WL_q rfl (ev_assign rfl) ?_
  refine WL_nil ?_
  refine thenE_n ?_
  refine W_seq ?_
  refine W_region ?_
  refine WL_q rfl (ev_move rfl) ?_
  refine WL_q rfl (ev_fieldAddr fo60_0 rfl) ?_
  refine WL_q rfl (ev_load one58 rfl (hB2.cell rfl)) ?_
  refine WL_q rfl (ev_len Try.underlying58 rfl) ?_
  refine WL_m rfl (ev_call rfl (fibres_spec _ _ m N.ends.length _ hx (by omega) hr (by omega) (by omega))) ?_
  rintro _ w9 ⟨b9, rfl, hR9, hE9⟩
  have hz9 := hE9.size
  replace hE := hE.trans hE9
  replace hx := hx.ext hE9
  replace hB2 := hB2.ext hE9
  have hI := hR9.is (c := N.ends.length) (by omega)
  refine WL_m rfl (ev_call rfl (rows_len (cap := []) (p := fun r => decide ((r.length : Int) = 0)) hfl.symm hI (by omega) (fun i h a2 c2 w1 _ _ => covers_1 _ _ _ w1))) ?_
  rintro _ w10 ⟨rfl, hE10⟩
  have hz10 := hE10.size
  replace hE := hE.trans hE10
  replace hx := hx.ext hE10
  replace hB2 := hB2.ext hE10
  replace hI := hI.ext hE10
  refine WL_q rfl (ev_not rfl) ?_
  refine WL_q rfl (ev_assign rfl) ?_
  refine WL_nil ?_
  refine thenE_n ?_
  refine W_ret ?_
  refine ret1 rfl rfl ?_
  exact ⟨rfl, hE⟩

set_option maxRecDepth 100000 in
theorem sIsCovering_spec {lo hi lo2 hi2 lo3 hi3 : Nat} (ha hb : NA) (A B : Net) (a : Option Addr) (c : Nat) (m : List Int) (w : World) (hA : IsNet lo hi w ha A) (hB : IsNet lo2 hi2 w hb B) (hx : Ints lo3 hi3 w a c m) (hhi : hi ≤ w.heap.size) (hhi2 : hi2 ≤ w.heap.size) (hhi3 : hi3 ≤ w.heap.size) (hnA : totN A ≤ 1048576) (hnB : totN B ≤ 1048576) (hm : m.length ≤ 1048576) :
    Fn Try.prog 47 #[netV ha A, netV hb B, .slice a m.length c] w (fun v w' => ∃ b q, v = .tuple #[VB b, VB q] ∧ Two b q (NOk A ∧ NOk B) (IsPM A B m ∧ onto m B.ends.length = true) ∧ Ext w w') := by
  have hlB : B.ends.length ≤ totN B := by unfold totN; have := totL_len B.ends; omega
  have hE := Ext.refl w
  refine Fn_of Try.func47 rfl rfl (by kernel_rfl) rfl ?_
  refine W_seq ?_
  refine W_region ?_
  refine WL_m rfl (ev_box rfl) ?_
  rintro _ w3 ⟨rfl, hN3⟩
  have hz3 := hN3.size
  replace hE := hE.trans hN3.ext
  replace hA := hA.ext hN3.ext
  replace hB := hB.ext hN3.ext
  replace hx := hx.ext hN3.ext
  have hB3 : Blk w3 _ _ [_, _, _] := hN3.blk
  refine WL_m rfl (ev_box rfl) ?_
  rintro _ w4 ⟨rfl, hN4⟩
  have hz4 := hN4.size
  replace hE := hE.trans hN4.ext
  replace hA := hA.ext hN4.ext
  replace hB := hB.ext hN4.ext
  replace hx := hx.ext hN4.ext
  replace hB3 := hB3.ext hN4.ext
  have hB4 : Blk w4 _ _ [_, _, _] := hN4.blk
  refine WL_q rfl (ev_assign rfl) ?_
  refine WL_q rfl (ev_assign rfl) ?_
  refine WL_nil ?_
  refine thenE_n ?_
  refine W_seq ?_
  refine W_seq ?_
  refine W_region ?_
  refine WL_q rfl (ev_loads st60 sz60 rfl (cellsB hB3) rfl) ?_
  refine WL_m rfl (ev_call rfl (neGood_spec ha A _ hA (by omega) (by omega))) ?_
  rintro _ w9 ⟨b9, rfl, hb9, hE9⟩
  have hz9 := hE9.size
  replace hE := hE.trans hE9
  replace hA := hA.ext hE9
  replace hB := hB.ext hE9
  replace hx := hx.ext hE9
  replace hB3 := hB3.ext hE9
  replace hB4 := hB4.ext hE9
  refine WL_q rfl (ev_not rfl) ?_
  refine WL_q rfl (ev_move rfl) ?_
  refine WL_splitv (t := 11) rfl (fun hg10 => ?_) (fun hg10 => ?_)
  · have hg9 := not_true hg10
    have hp9 := ttN hb9 hg9
    refine WL_no rfl rfl hg10 rfl ?_
    refine WL_no rfl rfl hg10 rfl ?_
    refine WL_no rfl rfl hg10 rfl ?_
    refine WL_q rfl (ev_pick_t rfl hg10 rfl) ?_
    refine WL_nil ?_
    refine thenE_n ?_
    refine W_cond_t rfl ?_
    refine W_seq ?_
    refine W_region ?_
    refine WL_q rfl (ev_assign rfl) ?_
    refine WL_q rfl (ev_assign rfl) ?_
    refine WL_nil ?_
    refine thenE_n ?_
    refine W_ret ?_
    refine thenE_r ?_
    refine ret2 rfl rfl rfl ?_
    first | (exact ⟨_, _, rfl, .no fun hk => hp9 hk.1, hE⟩) | (exact ⟨_, _, rfl, .no fun hk => hp13 hk.2, hE⟩) | (exact ⟨_, _, rfl, .yes ⟨hp9, hp13⟩ ⟨fun ho => ⟨hp19, ho⟩, fun hk => hk.2⟩, hE⟩) | (exact ⟨_, _, rfl, .yes ⟨hp9, hp13⟩ (ffI fun hk => hp19 hk.1), hE⟩)
  · have hg9 := not_false hg10
    have hp9 := hb9.1 hg9
    refine WL_qg rfl rfl hg10 rfl (ev_loads st60 sz60 rfl (cellsB hB4) rfl) ?_
    refine WL_mg rfl rfl hg10 rfl (ev_call rfl (neGood_spec hb B _ hB (by omega) (by omega))) ?_
    rintro _ w13 ⟨b13, rfl, hb13, hE13⟩
    have hz13 := hE13.size
    replace hE := hE.trans hE13
    replace hA := hA.ext hE13
    replace hB := hB.ext hE13
    replace hx := hx.ext hE13
    replace hB3 := hB3.ext hE13
    replace hB4 := hB4.ext hE13
    refine WL_qg rfl rfl hg10 rfl (ev_not rfl) ?_
    refine WL_q rfl (ev_pick_f rfl hg10 rfl) ?_
    refine WL_nil ?_
    refine thenE_n ?_
    refine W_cond rfl (fun hg14 => ?_) (fun hg14 => ?_)
    · have hg13 := not_true hg14
      have hp13 := ttN hb13 hg13
      refine W_seq ?_
      refine W_region ?_
      refine WL_q rfl (ev_assign rfl) ?_
      refine WL_q rfl (ev_assign rfl) ?_
      refine WL_nil ?_
      refine thenE_n ?_
      refine W_ret ?_
      refine thenE_r ?_
      refine ret2 rfl rfl rfl ?_
      first | (exact ⟨_, _, rfl, .no fun hk => hp9 hk.1, hE⟩) | (exact ⟨_, _, rfl, .no fun hk => hp13 hk.2, hE⟩) | (exact ⟨_, _, rfl, .yes ⟨hp9, hp13⟩ ⟨fun ho => ⟨hp19, ho⟩, fun hk => hk.2⟩, hE⟩) | (exact ⟨_, _, rfl, .yes ⟨hp9, hp13⟩ (ffI fun hk => hp19 hk.1), hE⟩)
    · have hg13 := not_false hg14
      have hp13 := hb13.1 hg13
      refine W_skip ?_
      refine thenE_n ?_
      refine W_seq ?_
      refine W_region ?_
      refine WL_q rfl (ev_loads st60 sz60 rfl (cellsB hB3) rfl) ?_
      refine WL_q rfl (ev_loads st60 sz60 rfl (cellsB hB4) rfl) ?_
      refine WL_q rfl (ev_move rfl) ?_
      refine WL_m rfl (ev_call rfl (coMap_spec ha hb A B _ _ m _ hA hB hx (by omega) (by omega) (by omega) (by omega) (by omega) (by omega) hp9 hp13)) ?_
      rintro _ w19 ⟨b19, rfl, hb19, hE19⟩
      have hz19 := hE19.size
      replace hE := hE.trans hE19
      replace hA := hA.ext hE19
      replace hB := hB.ext hE19
      replace hx := hx.ext hE19
      replace hB3 := hB3.ext hE19
      replace hB4 := hB4.ext hE19
      refine WL_q rfl (ev_move rfl) ?_
      refine WL_splitv (t := 20) rfl (fun hg19 => ?_) (fun hg19 => ?_)
      · have hp19 := hb19.1 hg19
        refine WL_qg rfl rfl hg19 rfl (ev_loads st60 sz60 rfl (cellsB hB4) rfl) ?_
        refine WL_qg rfl rfl hg19 rfl (ev_move rfl) ?_
        refine WL_mg rfl rfl hg19 rfl (ev_call rfl (coOnto_spec hb B _ _ m _ hx (by omega) (fun x hx => allR_true.1 hp19.rng x hx) (by omega) (by omega))) ?_
        rintro _ w23 ⟨rfl, hE23⟩
        have hz23 := hE23.size
        replace hE := hE.trans hE23
        replace hA := hA.ext hE23
        replace hB := hB.ext hE23
        replace hx := hx.ext hE23
        replace hB3 := hB3.ext hE23
        replace hB4 := hB4.ext hE23
        refine WL_q rfl (ev_pick_t rfl hg19 rfl) ?_
        refine WL_q rfl (ev_assign rfl) ?_
        refine WL_q rfl (ev_assign rfl) ?_
        refine WL_nil ?_
        refine thenE_n ?_
        refine W_ret ?_
        refine ret2 rfl rfl rfl ?_
        first | (exact ⟨_, _, rfl, .no fun hk => hp9 hk.1, hE⟩) | (exact ⟨_, _, rfl, .no fun hk => hp13 hk.2, hE⟩) | (exact ⟨_, _, rfl, .yes ⟨hp9, hp13⟩ ⟨fun ho => ⟨hp19, ho⟩, fun hk => hk.2⟩, hE⟩) | (exact ⟨_, _, rfl, .yes ⟨hp9, hp13⟩ (ffI fun hk => hp19 hk.1), hE⟩)
      · have hp19 := ttN hb19 hg19
        refine WL_no rfl rfl hg19 rfl ?_
        refine WL_no rfl rfl hg19 rfl ?_
        refine WL_no rfl rfl hg19 rfl ?_
        refine WL_q rfl (ev_pick_f rfl hg19 rfl) ?_
        refine WL_q rfl (ev_assign rfl) ?_
        refine WL_q rfl (ev_assign rfl) ?_
        refine WL_nil ?_
        refine thenE_n ?_
        refine W_ret ?_
        refine ret2 rfl rfl rfl ?_
        first | (exact ⟨_, _, rfl, .no fun hk => hp9 hk.1, hE⟩) | (exact ⟨_, _, rfl, .no fun hk => hp13 hk.2, hE⟩) | (exact ⟨_, _, rfl, .yes ⟨hp9, hp13⟩ ⟨fun ho => ⟨hp19, ho⟩, fun hk => hk.2⟩, hE⟩) | (exact ⟨_, _, rfl, .yes ⟨hp9, hp13⟩ (ffI fun hk => hp19 hk.1), hE⟩)

set_option maxRecDepth 100000 in
theorem IsCovering_spec {lo hi lo2 hi2 lo3 hi3 : Nat} (ha hb : NA) (A B : Net) (a : Option Addr) (c : Nat) (m : List Int) (w : World) (hA : IsNet lo hi w ha A) (hB : IsNet lo2 hi2 w hb B) (hx : Ints lo3 hi3 w a c m) (hhi : hi ≤ w.heap.size) (hhi2 : hi2 ≤ w.heap.size) (hhi3 : hi3 ≤ w.heap.size) (hnA : totN A ≤ 1048576) (hnB : totN B ≤ 1048576) (hm : m.length ≤ 1048576) :
    Fn Try.prog 48 #[netV ha A, netV hb B, .slice a m.length c] w (fun v w' => ∃ b q, v = .tuple #[VB b, VB q] ∧ Two b q (NOk A ∧ NOk B) (IsPM A B m ∧ onto m B.ends.length = true) ∧ Ext w w') := by
  have hlB : B.ends.length ≤ totN B := by unfold totN; have := totL_len B.ends; omega
  have hE := Ext.refl w
  refine Fn_of Try.func48 rfl rfl (by kernel_rfl) rfl ?_
  refine W_seq ?_
  refine W_region ?_
  refine WL_m rfl (ev_box rfl) ?_
  rintro _ w3 ⟨rfl, hN3⟩
  have hz3 := hN3.size
  replace hE := hE.trans hN3.ext
  replace hA := hA.ext hN3.ext
  replace hB := hB.ext hN3.ext
  replace hx := hx.ext hN3.ext
  have hB3 : Blk w3 _ _ [_, _, _] := hN3.blk
  refine WL_m rfl (ev_box rfl) ?_
  rintro _ w4 ⟨rfl, hN4⟩
  have hz4 := hN4.size
  replace hE := hE.trans hN4.ext
  replace hA := hA.ext hN4.ext
  replace hB := hB.ext hN4.ext
  replace hx := hx.ext hN4.ext
  replace hB3 := hB3.ext hN4.ext
  have hB4 : Blk w4 _ _ [_, _, _] := hN4.blk
  refine WL_q rfl (ev_assign rfl) ?_
  refine WL_q rfl (ev_assign rfl) ?_
  refine WL_nil ?_
  refine thenE_n ?_
  refine W_seq ?_
  refine W_seq ?_
  refine W_region ?_
  refine WL_q rfl (ev_loads st60 sz60 rfl (cellsB hB3) rfl) ?_
  refine WL_m rfl (ev_call rfl (IsNetwork_spec ha A _ hA (by omega) (by omega))) ?_
  rintro _ w9 ⟨b9, rfl, hb9, hE9⟩
  have hz9 := hE9.size
  replace hE := hE.trans hE9
  replace hA := hA.ext hE9
  replace hB := hB.ext hE9
  replace hx := hx.ext hE9
  replace hB3 := hB3.ext hE9
  replace hB4 := hB4.ext hE9
  refine WL_q rfl (ev_not rfl) ?_
  refine WL_q rfl (ev_move rfl) ?_
  refine WL_splitv (t := 11) rfl (fun hg10 => ?_) (fun hg10 => ?_)
  · have hg9 := not_true hg10
    have hp9 := ttN hb9 hg9
    refine WL_no rfl rfl hg10 rfl ?_
    refine WL_no rfl rfl hg10 rfl ?_
    refine WL_no rfl rfl hg10 rfl ?_
    refine WL_q rfl (ev_pick_t rfl hg10 rfl) ?_
    refine WL_nil ?_
    refine thenE_n ?_
    refine W_cond_t rfl ?_
    refine W_seq ?_
    refine W_region ?_
    refine WL_q rfl (ev_assign rfl) ?_
    refine WL_q rfl (ev_assign rfl) ?_
    refine WL_nil ?_
    refine thenE_n ?_
    refine W_ret ?_
    refine thenE_r ?_
    refine ret2 rfl rfl rfl ?_
    first | (exact ⟨_, _, rfl, .no fun hk => hp9 hk.1, hE⟩) | (exact ⟨_, _, rfl, .no fun hk => hp13 hk.2, hE⟩) | (exact ⟨_, _, rfl, .yes ⟨hp9, hp13⟩ ⟨fun ho => ⟨hp19, ho⟩, fun hk => hk.2⟩, hE⟩) | (exact ⟨_, _, rfl, .yes ⟨hp9, hp13⟩ (ffI fun hk => hp19 hk.1), hE⟩)
  · have hg9 := not_false hg10
    have hp9 := hb9.1 hg9
    refine WL_qg rfl rfl hg10 rfl (ev_loads st60 sz60 rfl (cellsB hB4) rfl) ?_
    refine WL_mg rfl rfl hg10 rfl (ev_call rfl (IsNetwork_spec hb B _ hB (by omega) (by omega))) ?_
    rintro _ w13 ⟨b13, rfl, hb13, hE13⟩
    have hz13 := hE13.size
    replace hE := hE.trans hE13
    replace hA := hA.ext hE13
    replace hB := hB.ext hE13
    replace hx := hx.ext hE13
    replace hB3 := hB3.ext hE13
    replace hB4 := hB4.ext hE13
    refine WL_qg rfl rfl hg10 rfl (ev_not rfl) ?_
    refine WL_q rfl (ev_pick_f rfl hg10 rfl) ?_
    refine WL_nil ?_
    refine thenE_n ?_
    refine W_cond rfl (fun hg14 => ?_) (fun hg14 => ?_)
    · have hg13 := not_true hg14
      have hp13 := ttN hb13 hg13
      refine W_seq ?_
      refine W_region ?_
      refine WL_q rfl (ev_assign rfl) ?_
      refine WL_q rfl (ev_assign rfl) ?_
      refine WL_nil ?_
      refine thenE_n ?_
      refine W_ret ?_
      refine thenE_r ?_
      refine ret2 rfl rfl rfl ?_
      first | (exact ⟨_, _, rfl, .no fun hk => hp9 hk.1, hE⟩) | (exact ⟨_, _, rfl, .no fun hk => hp13 hk.2, hE⟩) | (exact ⟨_, _, rfl, .yes ⟨hp9, hp13⟩ ⟨fun ho => ⟨hp19, ho⟩, fun hk => hk.2⟩, hE⟩) | (exact ⟨_, _, rfl, .yes ⟨hp9, hp13⟩ (ffI fun hk => hp19 hk.1), hE⟩)
    · have hg13 := not_false hg14
      have hp13 := hb13.1 hg13
      refine W_skip ?_
      refine thenE_n ?_
      refine W_seq ?_
      refine W_region ?_
      refine WL_q rfl (ev_loads st60 sz60 rfl (cellsB hB3) rfl) ?_
      refine WL_q rfl (ev_loads st60 sz60 rfl (cellsB hB4) rfl) ?_
      refine WL_q rfl (ev_move rfl) ?_
      refine WL_m rfl (ev_call rfl (isPortMap_spec ha hb A B _ _ m _ hA hB hx (by omega) (by omega) (by omega) (by omega) (by omega) (by omega) hp9 hp13)) ?_
      rintro _ w19 ⟨b19, rfl, hb19, hE19⟩
      have hz19 := hE19.size
      replace hE := hE.trans hE19
      replace hA := hA.ext hE19
      replace hB := hB.ext hE19
      replace hx := hx.ext hE19
      replace hB3 := hB3.ext hE19
      replace hB4 := hB4.ext hE19
      refine WL_q rfl (ev_move rfl) ?_
      refine WL_splitv (t := 20) rfl (fun hg19 => ?_) (fun hg19 => ?_)
      · have hp19 := hb19.1 hg19
        refine WL_qg rfl rfl hg19 rfl (ev_loads st60 sz60 rfl (cellsB hB4) rfl) ?_
        refine WL_qg rfl rfl hg19 rfl (ev_move rfl) ?_
        refine WL_mg rfl rfl hg19 rfl (ev_call rfl (covers_spec hb B _ _ m _ hx (by omega) (fun x hx => allR_true.1 hp19.rng x hx) (by omega) (by omega))) ?_
        rintro _ w23 ⟨rfl, hE23⟩
        have hz23 := hE23.size
        replace hE := hE.trans hE23
        replace hA := hA.ext hE23
        replace hB := hB.ext hE23
        replace hx := hx.ext hE23
        replace hB3 := hB3.ext hE23
        replace hB4 := hB4.ext hE23
        refine WL_q rfl (ev_pick_t rfl hg19 rfl) ?_
        refine WL_q rfl (ev_assign rfl) ?_
        refine WL_q rfl (ev_assign rfl) ?_
        refine WL_nil ?_
        refine thenE_n ?_
        refine W_ret ?_
        refine ret2 rfl rfl rfl ?_
        first | (exact ⟨_, _, rfl, .no fun hk => hp9 hk.1, hE⟩) | (exact ⟨_, _, rfl, .no fun hk => hp13 hk.2, hE⟩) | (exact ⟨_, _, rfl, .yes ⟨hp9, hp13⟩ ⟨fun ho => ⟨hp19, ho⟩, fun hk => hk.2⟩, hE⟩) | (exact ⟨_, _, rfl, .yes ⟨hp9, hp13⟩ (ffI fun hk => hp19 hk.1), hE⟩)
      · have hp19 := ttN hb19 hg19
        refine WL_no rfl rfl hg19 rfl ?_
        refine WL_no rfl rfl hg19 rfl ?_
        refine WL_no rfl rfl hg19 rfl ?_
        refine WL_q rfl (ev_pick_f rfl hg19 rfl) ?_
        refine WL_q rfl (ev_assign rfl) ?_
        refine WL_q rfl (ev_assign rfl) ?_
        refine WL_nil ?_
        refine thenE_n ?_
        refine W_ret ?_
        refine ret2 rfl rfl rfl ?_
        first | (exact ⟨_, _, rfl, .no fun hk => hp9 hk.1, hE⟩) | (exact ⟨_, _, rfl, .no fun hk => hp13 hk.2, hE⟩) | (exact ⟨_, _, rfl, .yes ⟨hp9, hp13⟩ ⟨fun ho => ⟨hp19, ho⟩, fun hk => hk.2⟩, hE⟩) | (exact ⟨_, _, rfl, .yes ⟨hp9, hp13⟩ (ffI fun hk => hp19 hk.1), hE⟩)

set_option maxRecDepth 100000 in
theorem law_IsCovering (ha hb : NA) (A B : Net) (a : Option Addr) (c : Nat) (m : List Int) (w : World) (hA : IsNet 0 w.heap.size w ha A) (hsA : SmN A) (hB : IsNet 0 w.heap.size w hb B) (hsB : SmN B) (hx : Ints 0 w.heap.size w a c m) :
    Fn Try.prog 12 #[netV ha A, netV hb B, .slice a m.length c] w (fun v w' => v = VB true ∧ Ext w w') := by
  have hE := Ext.refl w
  refine Fn_of Try.func12 rfl rfl (by kernel_rfl) rfl ?_
  refine W_seq ?_
  refine W_region ?_
  refine WL_m rfl (ev_box rfl) ?_
  rintro _ w3 ⟨rfl, hN3⟩
  have hz3 := hN3.size
  replace hE := hE.trans hN3.ext
  replace hA := hA.ext hN3.ext
  replace hB := hB.ext hN3.ext
  replace hx := hx.ext hN3.ext
  have hB3 : Blk w3 _ _ [_, _, _] := hN3.blk
  refine WL_m rfl (ev_box rfl) ?_
  rintro _ w4 ⟨rfl, hN4⟩
  have hz4 := hN4.size
  replace hE := hE.trans hN4.ext
  replace hA := hA.ext hN4.ext
  replace hB := hB.ext hN4.ext
  replace hx := hx.ext hN4.ext
  replace hB3 := hB3.ext hN4.ext
  have hB4 : Blk w4 _ _ [_, _, _] := hN4.blk
  refine WL_q rfl (ev_assign rfl) ?_
  refine WL_nil ?_
  refine thenE_n ?_
  refine W_seq ?_
  refine W_seq ?_
  refine W_region ?_
  refine WL_q rfl (ev_move rfl) ?_
  refine WL_q rfl (ev_len Try.underlying33 rfl) ?_
  refine WL_q rfl (ev_gtr rfl rfl) ?_
  refine WL_nil ?_
  refine thenE_n ?_
  refine W_cond rfl (fun hg17 => ?_) (fun hg17 => ?_)
  · have hp17 := of_decide_eq_true hg17
    refine W_seq ?_
    refine W_region ?_
    refine WL_q rfl (ev_assign rfl) ?_
    refine WL_nil ?_
    refine thenE_n ?_
    refine W_ret ?_
    refine thenE_r ?_
    refine ret1 rfl rfl ?_
    first | (exact ⟨rfl, hE⟩) | (exact (bneE hg53 (hr48.det1 hr35)).elim) | (exact (bneE hg57 (hr48.det2 hr35)).elim) | (exact (decF hg72).elim) | (exact (tfF hg62).elim) | (exact (tfF hg67).elim)
  · have hp17 := of_decide_eq_false hg17
    refine W_skip ?_
    refine thenE_n ?_
    refine W_seq ?_
    refine W_region ?_
    refine WL_q rfl (ev_assign rfl) ?_
    refine WL_nil ?_
    refine thenE_n ?_
    refine W_seq ?_
    refine W_region ?_
    refine WL_q rfl (ev_loads st55 sz55 rfl (cellsB hB3) rfl) ?_
    refine WL_q rfl (ev_move rfl) ?_
    refine WL_m rfl (ev_call rfl (szNetwork_spec ha A _ _ hA (by omega) hsA)) ?_
    rintro _ w20 ⟨r20, rfl, hE20, hr20⟩
    have hz20 := hE20.size
    replace hE := hE.trans hE20
    replace hA := hA.ext hE20
    replace hB := hB.ext hE20
    replace hx := hx.ext hE20
    replace hB3 := hB3.ext hE20
    replace hB4 := hB4.ext hE20
    refine WL_q rfl (ev_assign rfl) ?_
    refine WL_nil ?_
    refine thenE_n ?_
    refine W_seq ?_
    refine W_seq ?_
    refine W_region ?_
    refine WL_q rfl (ev_move rfl) ?_
    refine WL_q rfl (ev_lss rfl rfl) ?_
    refine WL_nil ?_
    refine thenE_n ?_
    refine W_cond rfl (fun hg22 => ?_) (fun hg22 => ?_)
    · have hp22 := of_decide_eq_true hg22
      refine W_seq ?_
      refine W_region ?_
      refine WL_q rfl (ev_assign rfl) ?_
      refine WL_nil ?_
      refine thenE_n ?_
      refine W_ret ?_
      refine thenE_r ?_
      refine ret1 rfl rfl ?_
      first | (exact ⟨rfl, hE⟩) | (exact (bneE hg53 (hr48.det1 hr35)).elim) | (exact (bneE hg57 (hr48.det2 hr35)).elim) | (exact (decF hg72).elim) | (exact (tfF hg62).elim) | (exact (tfF hg67).elim)
    · have hp22 := of_decide_eq_false hg22
      refine W_skip ?_
      refine thenE_n ?_
      refine W_seq ?_
      refine W_region ?_
      refine WL_q rfl (ev_loads st55 sz55 rfl (cellsB hB4) rfl) ?_
      refine WL_q rfl (ev_move rfl) ?_
      refine WL_m rfl (ev_call rfl (szNetwork_spec hb B _ _ hB (by omega) hsB)) ?_
      rintro _ w25 ⟨r25, rfl, hE25, hr25⟩
      have hz25 := hE25.size
      replace hE := hE.trans hE25
      replace hA := hA.ext hE25
      replace hB := hB.ext hE25
      replace hx := hx.ext hE25
      replace hB3 := hB3.ext hE25
      replace hB4 := hB4.ext hE25
      refine WL_q rfl (ev_assign rfl) ?_
      refine WL_nil ?_
      refine thenE_n ?_
      refine W_seq ?_
      refine W_seq ?_
      refine W_region ?_
      refine WL_q rfl (ev_move rfl) ?_
      refine WL_q rfl (ev_lss rfl rfl) ?_
      refine WL_nil ?_
      refine thenE_n ?_
      refine W_cond rfl (fun hg27 => ?_) (fun hg27 => ?_)
      · have hp27 := of_decide_eq_true hg27
        refine W_seq ?_
        refine W_region ?_
        refine WL_q rfl (ev_assign rfl) ?_
        refine WL_nil ?_
        refine thenE_n ?_
        refine W_ret ?_
        refine thenE_r ?_
        refine ret1 rfl rfl ?_
        first | (exact ⟨rfl, hE⟩) | (exact (bneE hg53 (hr48.det1 hr35)).elim) | (exact (bneE hg57 (hr48.det2 hr35)).elim) | (exact (decF hg72).elim) | (exact (tfF hg62).elim) | (exact (tfF hg67).elim)
      · have hp27 := of_decide_eq_false hg27
        refine W_skip ?_
        refine thenE_n ?_
        refine W_seq ?_
        refine W_drawE [(0, true), (2, true), (4, true), (1, false), (3, false), (5, false), (6, false), (7, true), (8, true), (9, true), (10, true), (11, true)] mixed (by kernel_rfl) rfl (by kernel_rfl) ?_
        intro wd10 hEd10 hzd10
        replace hE := hE.trans hEd10
        replace hA := hA.ext hEd10
        replace hB := hB.ext hEd10
        replace hx := hx.ext hEd10
        replace hB3 := hB3.ext hEd10
        replace hB4 := hB4.ext hEd10
        have hDd10 := Ext.refl wd10
        refine PW_q rfl rfl (fun wq hq => ev_loads st55 sz55 rfl (cellsB (hq.blk hB3)) rfl) ?_
        refine PW_q rfl rfl (fun wq hq => ev_loads st55 sz55 rfl (cellsB (hq.blk hB4)) rfl) ?_
        refine PW_q rfl rfl (fun wq hq => ev_move rfl) ?_
        refine PW_m rfl rfl (ev_call rfl (toNetwork_spec ha A _ hA (by omega) (by omega))) ?_
        rintro _ w30 ⟨h30, rfl, hF30, hE30⟩
        have hz30 := hE30.size
        replace hE := hE.trans hE30
        replace hDd10 := hDd10.trans hE30
        have hN30 := hF30.is
        refine ⟨hDd10, ?_⟩
        have hA_3 := hA.ext hDd10
        have hB_3 := hB.ext hDd10
        have hx_3 := hx.ext hDd10
        have hB3_3 := hB3.ext hDd10
        have hB4_3 := hB4.ext hDd10
        refine PW_m rfl rfl (ev_call rfl (toNetwork_spec hb B _ hB_3 (by omega) (by omega))) ?_
        rintro _ w32 ⟨h32, rfl, hF32, hE32⟩
        have hz32 := hE32.size
        replace hE := hE.trans hE32
        replace hDd10 := hDd10.trans hE32
        replace hN30 := hN30.ext hE32
        have hN32 := hF32.is
        refine ⟨hDd10, ?_⟩
        have hA_5 := hA.ext hDd10
        have hB_5 := hB.ext hDd10
        have hx_5 := hx.ext hDd10
        have hB3_5 := hB3.ext hDd10
        have hB4_5 := hB4.ext hDd10
        refine PW_m rfl rfl (ev_call rfl (toIntS_spec _ _ m _ hx_5 (by omega) (by omega))) ?_
        rintro _ w34 ⟨a34, rfl, hF34, hE34⟩
        have hz34 := hE34.size
        replace hE := hE.trans hE34
        replace hDd10 := hDd10.trans hE34
        replace hN30 := hN30.ext hE34
        replace hN32 := hN32.ext hE34
        have hx34 := hF34.is
        refine ⟨hDd10, ?_⟩
        have hA_6 := hA.ext hDd10
        have hB_6 := hB.ext hDd10
        have hx_6 := hx.ext hDd10
        have hB3_6 := hB3.ext hDd10
        have hB4_6 := hB4.ext hDd10
        refine PW_m rfl rfl (ev_call rfl (sIsCovering_spec h30 h32 A B _ _ m _ hN30 hN32 hx34 (by omega) (by omega) (by omega) (by omega) (by omega) (by omega))) ?_
        rintro _ w35 ⟨b35, q35, rfl, hr35, hE35⟩
        have hz35 := hE35.size
        replace hE := hE.trans hE35
        replace hDd10 := hDd10.trans hE35
        replace hN30 := hN30.ext hE35
        replace hN32 := hN32.ext hE35
        replace hx34 := hx34.ext hE35
        refine ⟨hDd10, ?_⟩
        refine PW_q rfl rfl (fun wq hq => ev_move rfl) ?_
        refine PW_q rfl rfl (fun wq hq => ev_extract rfl rfl) ?_
        refine PW_q rfl rfl (fun wq hq => ev_extract rfl rfl) ?_
        refine PW_q rfl rfl (fun wq hq => ev_assign rfl) ?_
        refine PW_q rfl rfl (fun wq hq => ev_assign rfl) ?_
        replace hA := hA.ext hDd10
        replace hB := hB.ext hDd10
        replace hx := hx.ext hDd10
        replace hB3 := hB3.ext hDd10
        replace hB4 := hB4.ext hDd10
        refine PW_nil ?_
        refine thenE_n ?_
        refine W_seq ?_
        refine W_region ?_
        refine WL_q rfl (ev_loads st55 sz55 rfl (cellsB hB3) rfl) ?_
        refine WL_m rfl (ev_call rfl (toNetwork_spec ha A _ hA (by omega) (by omega))) ?_
        rintro _ w39 ⟨h39, rfl, hF39, hE39⟩
        have hz39 := hE39.size
        replace hE := hE.trans hE39
        replace hA := hA.ext hE39
        replace hB := hB.ext hE39
        replace hx := hx.ext hE39
        replace hB3 := hB3.ext hE39
        replace hB4 := hB4.ext hE39
        replace hN30 := hN30.ext hE39
        replace hN32 := hN32.ext hE39
        replace hx34 := hx34.ext hE39
        have hN39 := hF39.is
        refine WL_m rfl (ev_alloc zr60) ?_
        rintro _ w10 ⟨rfl, hN10⟩
        have hz10 := hN10.size
        replace hE := hE.trans hN10.ext
        replace hA := hA.ext hN10.ext
        replace hB := hB.ext hN10.ext
        replace hx := hx.ext hN10.ext
        replace hB3 := hB3.ext hN10.ext
        replace hB4 := hB4.ext hN10.ext
        replace hN30 := hN30.ext hN10.ext
        replace hN32 := hN32.ext hN10.ext
        replace hx34 := hx34.ext hN10.ext
        replace hN39 := hN39.ext hN10.ext
        have hB10 : Blk w10 _ _ [_, _, _] := hN10.blk
        refine WL_s (ev_stores sz60 rfl rfl rfl (by simp [Value.oneCell']) hB10 (by simp)) ?_
        rintro _ w11_3 hS11_3
        have hz11_3 := hS11_3.size
        replace hE := hE.sto hS11_3 (by omega)
        replace hA := hA.sto hS11_3 (by omega)
        replace hB := hB.sto hS11_3 (by omega)
        replace hx := hx.sto hS11_3 (by omega)
        replace hB3 := hB3.sto hS11_3 (by omega)
        replace hB4 := hB4.sto hS11_3 (by omega)
        replace hN30 := hN30.sto hS11_3 (by omega)
        replace hN32 := hN32.sto hS11_3 (by omega)
        replace hx34 := hx34.sto hS11_3 (by omega)
        replace hN39 := hN39.sto hS11_3 (by omega)
        replace hB10 : Blk w11_3 _ _ [_, _, _] := hS11_3.blk
        refine WL_nil ?_
        refine thenE_n ?_
        refine W_seq ?_
        refine W_region ?_
        refine WL_q rfl (ev_loads st55 sz55 rfl (cellsB hB4) rfl) ?_
        refine WL_m rfl (ev_call rfl (toNetwork_spec hb B _ hB (by omega) (by omega))) ?_
        rintro _ w41 ⟨h41, rfl, hF41, hE41⟩
        have hz41 := hE41.size
        replace hE := hE.trans hE41
        replace hA := hA.ext hE41
        replace hB := hB.ext hE41
        replace hx := hx.ext hE41
        replace hB3 := hB3.ext hE41
        replace hB4 := hB4.ext hE41
        replace hN30 := hN30.ext hE41
        replace hN32 := hN32.ext hE41
        replace hx34 := hx34.ext hE41
        replace hN39 := hN39.ext hE41
        replace hB10 := hB10.ext hE41
        have hN41 := hF41.is
        refine WL_m rfl (ev_alloc zr60) ?_
        rintro _ w11 ⟨rfl, hN11⟩
        have hz11 := hN11.size
        replace hE := hE.trans hN11.ext
        replace hA := hA.ext hN11.ext
        replace hB := hB.ext hN11.ext
        replace hx := hx.ext hN11.ext
        replace hB3 := hB3.ext hN11.ext
        replace hB4 := hB4.ext hN11.ext
        replace hN30 := hN30.ext hN11.ext
        replace hN32 := hN32.ext hN11.ext
        replace hx34 := hx34.ext hN11.ext
        replace hN39 := hN39.ext hN11.ext
        replace hB10 := hB10.ext hN11.ext
        replace hN41 := hN41.ext hN11.ext
        have hB11 : Blk w11 _ _ [_, _, _] := hN11.blk
        refine WL_s (ev_stores sz60 rfl rfl rfl (by simp [Value.oneCell']) hB11 (by simp)) ?_
        rintro _ w12_3 hS12_3
        have hz12_3 := hS12_3.size
        replace hE := hE.sto hS12_3 (by omega)
        replace hA := hA.sto hS12_3 (by omega)
        replace hB := hB.sto hS12_3 (by omega)
        replace hx := hx.sto hS12_3 (by omega)
        replace hB3 := hB3.sto hS12_3 (by omega)
        replace hB4 := hB4.sto hS12_3 (by omega)
        replace hN30 := hN30.sto hS12_3 (by omega)
        replace hN32 := hN32.sto hS12_3 (by omega)
        replace hx34 := hx34.sto hS12_3 (by omega)
        replace hN39 := hN39.sto hS12_3 (by omega)
        replace hB10 := hB10.sto hS12_3 (by omega)
        replace hN41 := hN41.sto hS12_3 (by omega)
        replace hB11 : Blk w12_3 _ _ [_, _, _] := hS12_3.blk
        refine WL_nil ?_
        refine thenE_n ?_
        refine W_seq ?_
        refine W_region ?_
        refine WL_q rfl (ev_move rfl) ?_
        refine WL_m rfl (ev_call rfl (toIntS_spec _ _ m _ hx (by omega) (by omega))) ?_
        rintro _ w43 ⟨a43, rfl, hF43, hE43⟩
        have hz43 := hE43.size
        replace hE := hE.trans hE43
        replace hA := hA.ext hE43
        replace hB := hB.ext hE43
        replace hx := hx.ext hE43
        replace hB3 := hB3.ext hE43
        replace hB4 := hB4.ext hE43
        replace hN30 := hN30.ext hE43
        replace hN32 := hN32.ext hE43
        replace hx34 := hx34.ext hE43
        replace hN39 := hN39.ext hE43
        replace hB10 := hB10.ext hE43
        replace hN41 := hN41.ext hE43
        replace hB11 := hB11.ext hE43
        have hx43 := hF43.is
        refine WL_q rfl (ev_assign rfl) ?_
        refine WL_nil ?_
        refine thenE_n ?_
        refine W_seq ?_
        refine W_region ?_
        refine WL_q rfl (ev_loads st60 sz60 rfl (cellsB hB10) rfl) ?_
        refine WL_q rfl (ev_loads st60 sz60 rfl (cellsB hB11) rfl) ?_
        refine WL_q rfl (ev_move rfl) ?_
        refine WL_m rfl (ev_call rfl (IsCovering_spec h39 h41 A B _ _ m _ hN39 hN41 hx43 (by omega) (by omega) (by omega) (by omega) (by omega) (by omega))) ?_
        rintro _ w48 ⟨b48, q48, rfl, hr48, hE48⟩
        have hz48 := hE48.size
        replace hE := hE.trans hE48
        replace hA := hA.ext hE48
        replace hB := hB.ext hE48
        replace hx := hx.ext hE48
        replace hB3 := hB3.ext hE48
        replace hB4 := hB4.ext hE48
        replace hN30 := hN30.ext hE48
        replace hN32 := hN32.ext hE48
        replace hx34 := hx34.ext hE48
        replace hN39 := hN39.ext hE48
        replace hB10 := hB10.ext hE48
        replace hN41 := hN41.ext hE48
        replace hB11 := hB11.ext hE48
        replace hx43 := hx43.ext hE48
        refine WL_q rfl (ev_move rfl) ?_
        refine WL_q rfl (ev_extract rfl rfl) ?_
        refine WL_q rfl (ev_extract rfl rfl) ?_
        refine WL_q rfl (ev_assign rfl) ?_
        refine WL_q rfl (ev_assign rfl) ?_
        refine WL_nil ?_
        refine thenE_n ?_
        refine W_seq ?_
        refine W_seq ?_
        refine W_region ?_
        refine WL_q rfl (ev_move rfl) ?_
        refine WL_q rfl (ev_move rfl) ?_
        refine WL_q rfl (ev_neq_b Try.underlying4 rfl rfl) ?_
        refine WL_q rfl (ev_move rfl) ?_
        refine WL_splitv (t := 54) rfl (fun hg53 => ?_) (fun hg53 => ?_)
        · refine WL_no rfl rfl hg53 rfl ?_
          refine WL_no rfl rfl hg53 rfl ?_
          refine WL_no rfl rfl hg53 rfl ?_
          refine WL_q rfl (ev_pick_t rfl hg53 rfl) ?_
          refine WL_nil ?_
          refine thenE_n ?_
          refine W_cond_t rfl ?_
          refine W_seq ?_
          refine W_region ?_
          refine WL_q rfl (ev_assign rfl) ?_
          refine WL_nil ?_
          refine thenE_n ?_
          refine W_ret ?_
          refine thenE_r ?_
          refine ret1 rfl rfl ?_
          first | (exact ⟨rfl, hE⟩) | (exact (bneE hg53 (hr48.det1 hr35)).elim) | (exact (bneE hg57 (hr48.det2 hr35)).elim) | (exact (decF hg72).elim) | (exact (tfF hg62).elim) | (exact (tfF hg67).elim)
        · refine WL_qg rfl rfl hg53 rfl (ev_move rfl) ?_
          refine WL_qg rfl rfl hg53 rfl (ev_move rfl) ?_
          refine WL_qg rfl rfl hg53 rfl (ev_neq_b Try.underlying4 rfl rfl) ?_
          refine WL_q rfl (ev_pick_f rfl hg53 rfl) ?_
          refine WL_nil ?_
          refine thenE_n ?_
          refine W_cond rfl (fun hg57 => ?_) (fun hg57 => ?_)
          · refine W_seq ?_
            refine W_region ?_
            refine WL_q rfl (ev_assign rfl) ?_
            refine WL_nil ?_
            refine thenE_n ?_
            refine W_ret ?_
            refine thenE_r ?_
            refine ret1 rfl rfl ?_
            first | (exact ⟨rfl, hE⟩) | (exact (bneE hg53 (hr48.det1 hr35)).elim) | (exact (bneE hg57 (hr48.det2 hr35)).elim) | (exact (decF hg72).elim) | (exact (tfF hg62).elim) | (exact (tfF hg67).elim)
          · refine W_skip ?_
            refine thenE_n ?_
            refine W_seq ?_
            refine W_seq ?_
            refine W_drawE [(0, true), (1, true), (2, false), (3, false), (4, true)] mixed (by kernel_rfl) rfl (by kernel_rfl) ?_
            intro wd17 hEd17 hzd17
            replace hE := hE.trans hEd17
            replace hA := hA.ext hEd17
            replace hB := hB.ext hEd17
            replace hx := hx.ext hEd17
            replace hB3 := hB3.ext hEd17
            replace hB4 := hB4.ext hEd17
            replace hN30 := hN30.ext hEd17
            replace hN32 := hN32.ext hEd17
            replace hx34 := hx34.ext hEd17
            replace hN39 := hN39.ext hEd17
            replace hB10 := hB10.ext hEd17
            replace hN41 := hN41.ext hEd17
            replace hB11 := hB11.ext hEd17
            replace hx43 := hx43.ext hEd17
            have hDd17 := Ext.refl wd17
            refine PW_q rfl rfl (fun wq hq => ev_loads st60 sz60 rfl (cellsB (hq.blk hB10)) rfl) ?_
            refine PW_q rfl rfl (fun wq hq => ev_loads st55 sz55 rfl (cellsB (hq.blk hB3)) rfl) ?_
            refine PW_m rfl rfl (ev_call rfl (toNetwork_spec ha A _ hA (by omega) (by omega))) ?_
            rintro _ w61 ⟨h61, rfl, hF61, hE61⟩
            have hz61 := hE61.size
            replace hE := hE.trans hE61
            replace hDd17 := hDd17.trans hE61
            have hN61 := hF61.is
            refine ⟨hDd17, ?_⟩
            have hA_3 := hA.ext hDd17
            have hB_3 := hB.ext hDd17
            have hx_3 := hx.ext hDd17
            have hB3_3 := hB3.ext hDd17
            have hB4_3 := hB4.ext hDd17
            have hN30_3 := hN30.ext hDd17
            have hN32_3 := hN32.ext hDd17
            have hx34_3 := hx34.ext hDd17
            have hN39_3 := hN39.ext hDd17
            have hB10_3 := hB10.ext hDd17
            have hN41_3 := hN41.ext hDd17
            have hB11_3 := hB11.ext hDd17
            have hx43_3 := hx43.ext hDd17
            refine PW_m rfl rfl (ev_call rfl (eqNetwork_spec h39 h61 A _ hN39_3 hN61 (by omega))) ?_
            rintro _ w62 ⟨rfl, hE62⟩
            have hz62 := hE62.size
            replace hE := hE.trans hE62
            replace hDd17 := hDd17.trans hE62
            replace hN61 := hN61.ext hE62
            refine ⟨hDd17, ?_⟩
            refine PW_q rfl rfl (fun wq hq => ev_not rfl) ?_
            replace hA := hA.ext hDd17
            replace hB := hB.ext hDd17
            replace hx := hx.ext hDd17
            replace hB3 := hB3.ext hDd17
            replace hB4 := hB4.ext hDd17
            replace hN30 := hN30.ext hDd17
            replace hN32 := hN32.ext hDd17
            replace hx34 := hx34.ext hDd17
            replace hN39 := hN39.ext hDd17
            replace hB10 := hB10.ext hDd17
            replace hN41 := hN41.ext hDd17
            replace hB11 := hB11.ext hDd17
            replace hx43 := hx43.ext hDd17
            refine PW_nil ?_
            refine thenE_n ?_
            refine W_cond rfl (fun hg63 => ?_) (fun hg63 => ?_)
            · have hg62 := not_true hg63
              refine W_seq ?_
              refine W_region ?_
              refine WL_q rfl (ev_assign rfl) ?_
              refine WL_nil ?_
              refine thenE_n ?_
              refine W_ret ?_
              refine thenE_r ?_
              refine ret1 rfl rfl ?_
              first | (exact ⟨rfl, hE⟩) | (exact (bneE hg53 (hr48.det1 hr35)).elim) | (exact (bneE hg57 (hr48.det2 hr35)).elim) | (exact (decF hg72).elim) | (exact (tfF hg62).elim) | (exact (tfF hg67).elim)
            · have hg62 := not_false hg63
              refine W_skip ?_
              refine thenE_n ?_
              refine W_seq ?_
              refine W_seq ?_
              refine W_drawE [(0, true), (1, true), (2, false), (3, false), (4, true)] mixed (by kernel_rfl) rfl (by kernel_rfl) ?_
              intro wd19 hEd19 hzd19
              replace hE := hE.trans hEd19
              replace hA := hA.ext hEd19
              replace hB := hB.ext hEd19
              replace hx := hx.ext hEd19
              replace hB3 := hB3.ext hEd19
              replace hB4 := hB4.ext hEd19
              replace hN30 := hN30.ext hEd19
              replace hN32 := hN32.ext hEd19
              replace hx34 := hx34.ext hEd19
              replace hN39 := hN39.ext hEd19
              replace hB10 := hB10.ext hEd19
              replace hN41 := hN41.ext hEd19
              replace hB11 := hB11.ext hEd19
              replace hx43 := hx43.ext hEd19
              replace hN61 := hN61.ext hEd19
              have hDd19 := Ext.refl wd19
              refine PW_q rfl rfl (fun wq hq => ev_loads st60 sz60 rfl (cellsB (hq.blk hB11)) rfl) ?_
              refine PW_q rfl rfl (fun wq hq => ev_loads st55 sz55 rfl (cellsB (hq.blk hB4)) rfl) ?_
              refine PW_m rfl rfl (ev_call rfl (toNetwork_spec hb B _ hB (by omega) (by omega))) ?_
              rintro _ w66 ⟨h66, rfl, hF66, hE66⟩
              have hz66 := hE66.size
              replace hE := hE.trans hE66
              replace hDd19 := hDd19.trans hE66
              have hN66 := hF66.is
              refine ⟨hDd19, ?_⟩
              have hA_3 := hA.ext hDd19
              have hB_3 := hB.ext hDd19
              have hx_3 := hx.ext hDd19
              have hB3_3 := hB3.ext hDd19
              have hB4_3 := hB4.ext hDd19
              have hN30_3 := hN30.ext hDd19
              have hN32_3 := hN32.ext hDd19
              have hx34_3 := hx34.ext hDd19
              have hN39_3 := hN39.ext hDd19
              have hB10_3 := hB10.ext hDd19
              have hN41_3 := hN41.ext hDd19
              have hB11_3 := hB11.ext hDd19
              have hx43_3 := hx43.ext hDd19
              have hN61_3 := hN61.ext hDd19
              refine PW_m rfl rfl (ev_call rfl (eqNetwork_spec h41 h66 B _ hN41_3 hN66 (by omega))) ?_
              rintro _ w67 ⟨rfl, hE67⟩
              have hz67 := hE67.size
              replace hE := hE.trans hE67
              replace hDd19 := hDd19.trans hE67
              replace hN66 := hN66.ext hE67
              refine ⟨hDd19, ?_⟩
              refine PW_q rfl rfl (fun wq hq => ev_not rfl) ?_
              replace hA := hA.ext hDd19
              replace hB := hB.ext hDd19
              replace hx := hx.ext hDd19
              replace hB3 := hB3.ext hDd19
              replace hB4 := hB4.ext hDd19
              replace hN30 := hN30.ext hDd19
              replace hN32 := hN32.ext hDd19
              replace hx34 := hx34.ext hDd19
              replace hN39 := hN39.ext hDd19
              replace hB10 := hB10.ext hDd19
              replace hN41 := hN41.ext hDd19
              replace hB11 := hB11.ext hDd19
              replace hx43 := hx43.ext hDd19
              replace hN61 := hN61.ext hDd19
              refine PW_nil ?_
              refine thenE_n ?_
              refine W_cond rfl (fun hg68 => ?_) (fun hg68 => ?_)
              · have hg67 := not_true hg68
                refine W_seq ?_
                refine W_region ?_
                refine WL_q rfl (ev_assign rfl) ?_
                refine WL_nil ?_
                refine thenE_n ?_
                refine W_ret ?_
                refine thenE_r ?_
                refine ret1 rfl rfl ?_
                first | (exact ⟨rfl, hE⟩) | (exact (bneE hg53 (hr48.det1 hr35)).elim) | (exact (bneE hg57 (hr48.det2 hr35)).elim) | (exact (decF hg72).elim) | (exact (tfF hg62).elim) | (exact (tfF hg67).elim)
              · have hg67 := not_false hg68
                refine W_skip ?_
                refine thenE_n ?_
                refine W_seq ?_
                refine W_seq ?_
                refine W_region ?_
                refine WL_q rfl (ev_move rfl) ?_
                refine WL_q rfl (ev_move rfl) ?_
                refine WL_m rfl (ev_call rfl (toIntS_spec _ _ m _ hx (by omega) (by omega))) ?_
                rintro _ w71 ⟨a71, rfl, hF71, hE71⟩
                have hz71 := hE71.size
                replace hE := hE.trans hE71
                replace hA := hA.ext hE71
                replace hB := hB.ext hE71
                replace hx := hx.ext hE71
                replace hB3 := hB3.ext hE71
                replace hB4 := hB4.ext hE71
                replace hN30 := hN30.ext hE71
                replace hN32 := hN32.ext hE71
                replace hx34 := hx34.ext hE71
                replace hN39 := hN39.ext hE71
                replace hB10 := hB10.ext hE71
                replace hN41 := hN41.ext hE71
                replace hB11 := hB11.ext hE71
                replace hx43 := hx43.ext hE71
                replace hN61 := hN61.ext hE71
                replace hN66 := hN66.ext hE71
                have hx71 := hF71.is
                refine WL_m rfl (ev_call rfl (eqIntS_spec _ _ _ _ m m _ hx43 hx71 (by omega))) ?_
                rintro _ w72 ⟨rfl, hE72⟩
                have hz72 := hE72.size
                replace hE := hE.trans hE72
                replace hA := hA.ext hE72
                replace hB := hB.ext hE72
                replace hx := hx.ext hE72
                replace hB3 := hB3.ext hE72
                replace hB4 := hB4.ext hE72
                replace hN30 := hN30.ext hE72
                replace hN32 := hN32.ext hE72
                replace hx34 := hx34.ext hE72
                replace hN39 := hN39.ext hE72
                replace hB10 := hB10.ext hE72
                replace hN41 := hN41.ext hE72
                replace hB11 := hB11.ext hE72
                replace hx43 := hx43.ext hE72
                replace hN61 := hN61.ext hE72
                replace hN66 := hN66.ext hE72
                replace hF71 := hF71.ext hE72
                refine WL_q rfl (ev_not rfl) ?_
                refine WL_nil ?_
                refine thenE_n ?_
                refine W_cond rfl (fun hg73 => ?_) (fun hg73 => ?_)
                · have hg72 := not_true hg73
                  refine W_seq ?_
                  refine W_region ?_
                  refine WL_q rfl (ev_assign rfl) ?_
                  refine WL_nil ?_
                  refine thenE_n ?_
                  refine W_ret ?_
                  refine thenE_r ?_
                  refine ret1 rfl rfl ?_
                  first | (exact ⟨rfl, hE⟩) | (exact (bneE hg53 (hr48.det1 hr35)).elim) | (exact (bneE hg57 (hr48.det2 hr35)).elim) | (exact (decF hg72).elim) | (exact (tfF hg62).elim) | (exact (tfF hg67).elim)
                · have hg72 := not_false hg73
                  refine W_skip ?_
                  refine thenE_n ?_
                  refine W_seq ?_
                  refine W_region ?_
                  refine WL_q rfl (ev_assign rfl) ?_
                  refine WL_nil ?_
                  refine thenE_n ?_
                  refine W_ret ?_
                  refine ret1 rfl rfl ?_
                  first | (exact ⟨rfl, hE⟩) | (exact (bneE hg53 (hr48.det1 hr35)).elim) | (exact (bneE hg57 (hr48.det2 hr35)).elim) | (exact (decF hg72).elim) | (exact (tfF hg62).elim) | (exact (tfF hg67).elim)

set_option maxRecDepth 100000 in
theorem coAsked_spec {lo hi lo2 hi2 lo3 hi3 : Nat} (ha hb : NA) (A B : Net) (a : Option Addr) (c : Nat) (m : List Int) (w : World) (hA : IsNet lo hi w ha A) (hB : IsNet lo2 hi2 w hb B) (hx : Ints lo3 hi3 w a c m) (hhi : hi ≤ w.heap.size) (hhi2 : hi2 ≤ w.heap.size) (hhi3 : hi3 ≤ w.heap.size) (hnA : totN A ≤ 1048576) (hnB : totN B ≤ 1048576) (hm : m.length ≤ 1048576) :
    Fn Try.prog 98 #[netV ha A, netV hb B, .slice a m.length c] w (fun v w' => ∃ b, v = VB b ∧ (b = true ↔ (NOk A ∧ NOk B ∧ IsPM A B m)) ∧ Ext w w') := by
  have hE := Ext.refl w
  refine Fn_of Try.func98 rfl rfl (by kernel_rfl) rfl ?_
  refine W_seq ?_
  refine W_region ?_
  refine WL_m rfl (ev_box rfl) ?_
  rintro _ w3 ⟨rfl, hN3⟩
  have hz3 := hN3.size
  replace hE := hE.trans hN3.ext
  replace hA := hA.ext hN3.ext
  replace hB := hB.ext hN3.ext
  replace hx := hx.ext hN3.ext
  have hB3 : Blk w3 _ _ [_, _, _] := hN3.blk
  refine WL_m rfl (ev_box rfl) ?_
  rintro _ w4 ⟨rfl, hN4⟩
  have hz4 := hN4.size
  replace hE := hE.trans hN4.ext
  replace hA := hA.ext hN4.ext
  replace hB := hB.ext hN4.ext
  replace hx := hx.ext hN4.ext
  replace hB3 := hB3.ext hN4.ext
  have hB4 : Blk w4 _ _ [_, _, _] := hN4.blk
  refine WL_q rfl (ev_assign rfl) ?_
  refine WL_nil ?_
  refine thenE_n ?_
  refine W_seq ?_
  refine W_region ?_
  refine WL_q rfl (ev_loads st60 sz60 rfl (cellsB hB3) rfl) ?_
  refine WL_m rfl (ev_call rfl (neGood_spec ha A _ hA (by omega) (by omega))) ?_
  rintro _ w8 ⟨b8, rfl, hb8, hE8⟩
  have hz8 := hE8.size
  replace hE := hE.trans hE8
  replace hA := hA.ext hE8
  replace hB := hB.ext hE8
  replace hx := hx.ext hE8
  replace hB3 := hB3.ext hE8
  replace hB4 := hB4.ext hE8
  refine WL_q rfl (ev_move rfl) ?_
  refine WL_splitv (t := 9) rfl (fun hg8 => ?_) (fun hg8 => ?_)
  · have hp8 := hb8.1 hg8
    refine WL_qg rfl rfl hg8 rfl (ev_loads st60 sz60 rfl (cellsB hB4) rfl) ?_
    refine WL_mg rfl rfl hg8 rfl (ev_call rfl (neGood_spec hb B _ hB (by omega) (by omega))) ?_
    rintro _ w11 ⟨b11, rfl, hb11, hE11⟩
    have hz11 := hE11.size
    replace hE := hE.trans hE11
    replace hA := hA.ext hE11
    replace hB := hB.ext hE11
    replace hx := hx.ext hE11
    replace hB3 := hB3.ext hE11
    replace hB4 := hB4.ext hE11
    refine WL_q rfl (ev_pick_t rfl hg8 rfl) ?_
    refine WL_q rfl (ev_move rfl) ?_
    refine WL_splitv (t := 13) rfl (fun hg11 => ?_) (fun hg11 => ?_)
    · have hp11 := hb11.1 hg11
      refine WL_qg rfl rfl hg11 rfl (ev_loads st60 sz60 rfl (cellsB hB3) rfl) ?_
      refine WL_qg rfl rfl hg11 rfl (ev_loads st60 sz60 rfl (cellsB hB4) rfl) ?_
      refine WL_qg rfl rfl hg11 rfl (ev_move rfl) ?_
      refine WL_mg rfl rfl hg11 rfl (ev_call rfl (coMap_spec ha hb A B _ _ m _ hA hB hx (by omega) (by omega) (by omega) (by omega) (by omega) (by omega) hp8 hp11)) ?_
      rintro _ w17 ⟨b17, rfl, hb17, hE17⟩
      have hz17 := hE17.size
      replace hE := hE.trans hE17
      replace hA := hA.ext hE17
      replace hB := hB.ext hE17
      replace hx := hx.ext hE17
      replace hB3 := hB3.ext hE17
      replace hB4 := hB4.ext hE17
      refine WL_q rfl (ev_pick_t rfl hg11 rfl) ?_
      refine WL_q rfl (ev_assign rfl) ?_
      refine WL_nil ?_
      refine thenE_n ?_
      refine W_ret ?_
      refine ret1 rfl rfl ?_
      first | (exact ⟨_, rfl, ⟨fun ho => ⟨hp8, hp11, hb17.1 ho⟩, fun hk => hb17.2 hk.2.2⟩, hE⟩) | (exact ⟨_, rfl, ffI fun hk => hp8 hk.1, hE⟩) | (exact ⟨_, rfl, ffI fun hk => hp11 hk.2.1, hE⟩)
    · have hp11 := ttN hb11 hg11
      refine WL_no rfl rfl hg11 rfl ?_
      refine WL_no rfl rfl hg11 rfl ?_
      refine WL_no rfl rfl hg11 rfl ?_
      refine WL_no rfl rfl hg11 rfl ?_
      refine WL_q rfl (ev_pick_f rfl hg11 rfl) ?_
      refine WL_q rfl (ev_assign rfl) ?_
      refine WL_nil ?_
      refine thenE_n ?_
      refine W_ret ?_
      refine ret1 rfl rfl ?_
      first | (exact ⟨_, rfl, ⟨fun ho => ⟨hp8, hp11, hb17.1 ho⟩, fun hk => hb17.2 hk.2.2⟩, hE⟩) | (exact ⟨_, rfl, ffI fun hk => hp8 hk.1, hE⟩) | (exact ⟨_, rfl, ffI fun hk => hp11 hk.2.1, hE⟩)
  · have hp8 := ttN hb8 hg8
    refine WL_no rfl rfl hg8 rfl ?_
    refine WL_no rfl rfl hg8 rfl ?_
    refine WL_q rfl (ev_pick_f rfl hg8 rfl) ?_
    refine WL_q rfl (ev_move rfl) ?_
    refine WL_no rfl rfl rfl rfl ?_
    refine WL_no rfl rfl rfl rfl ?_
    refine WL_no rfl rfl rfl rfl ?_
    refine WL_no rfl rfl rfl rfl ?_
    refine WL_q rfl (ev_pick_f rfl rfl rfl) ?_
    refine WL_q rfl (ev_assign rfl) ?_
    refine WL_nil ?_
    refine thenE_n ?_
    refine W_ret ?_
    refine ret1 rfl rfl ?_
    first | (exact ⟨_, rfl, ⟨fun ho => ⟨hp8, hp11, hb17.1 ho⟩, fun hk => hb17.2 hk.2.2⟩, hE⟩) | (exact ⟨_, rfl, ffI fun hk => hp8 hk.1, hE⟩) | (exact ⟨_, rfl, ffI fun hk => hp11 hk.2.1, hE⟩)

set_option maxRecDepth 100000 in
theorem mapOk_spec {lo hi lo2 hi2 lo3 hi3 : Nat} (ha hb : NA) (A B : Net) (a : Option Addr) (c : Nat) (m : List Int) (w : World) (hA : IsNet lo hi w ha A) (hB : IsNet lo2 hi2 w hb B) (hx : Ints lo3 hi3 w a c m) (hhi : hi ≤ w.heap.size) (hhi2 : hi2 ≤ w.heap.size) (hhi3 : hi3 ≤ w.heap.size) (hnA : totN A ≤ 1048576) (hnB : totN B ≤ 1048576) (hm : m.length ≤ 1048576) :
    Fn Try.prog 136 #[netV ha A, netV hb B, .slice a m.length c] w (fun v w' => ∃ b, v = VB b ∧ (b = true ↔ (NOk A ∧ NOk B ∧ IsPM A B m)) ∧ Ext w w') := by
  have hE := Ext.refl w
  refine Fn_of Try.func136 rfl rfl (by kernel_rfl) rfl ?_
  refine W_seq ?_
  refine W_region ?_
  refine WL_m rfl (ev_box rfl) ?_
  rintro _ w3 ⟨rfl, hN3⟩
  have hz3 := hN3.size
  replace hE := hE.trans hN3.ext
  replace hA := hA.ext hN3.ext
  replace hB := hB.ext hN3.ext
  replace hx := hx.ext hN3.ext
  have hB3 : Blk w3 _ _ [_, _, _] := hN3.blk
  refine WL_m rfl (ev_box rfl) ?_
  rintro _ w4 ⟨rfl, hN4⟩
  have hz4 := hN4.size
  replace hE := hE.trans hN4.ext
  replace hA := hA.ext hN4.ext
  replace hB := hB.ext hN4.ext
  replace hx := hx.ext hN4.ext
  replace hB3 := hB3.ext hN4.ext
  have hB4 : Blk w4 _ _ [_, _, _] := hN4.blk
  refine WL_q rfl (ev_assign rfl) ?_
  refine WL_nil ?_
  refine thenE_n ?_
  refine W_seq ?_
  refine W_region ?_
  refine WL_q rfl (ev_loads st60 sz60 rfl (cellsB hB3) rfl) ?_
  refine WL_m rfl (ev_call rfl (IsNetwork_spec ha A _ hA (by omega) (by omega))) ?_
  rintro _ w8 ⟨b8, rfl, hb8, hE8⟩
  have hz8 := hE8.size
  replace hE := hE.trans hE8
  replace hA := hA.ext hE8
  replace hB := hB.ext hE8
  replace hx := hx.ext hE8
  replace hB3 := hB3.ext hE8
  replace hB4 := hB4.ext hE8
  refine WL_q rfl (ev_move rfl) ?_
  refine WL_splitv (t := 9) rfl (fun hg8 => ?_) (fun hg8 => ?_)
  · have hp8 := hb8.1 hg8
    refine WL_qg rfl rfl hg8 rfl (ev_loads st60 sz60 rfl (cellsB hB4) rfl) ?_
    refine WL_mg rfl rfl hg8 rfl (ev_call rfl (IsNetwork_spec hb B _ hB (by omega) (by omega))) ?_
    rintro _ w11 ⟨b11, rfl, hb11, hE11⟩
    have hz11 := hE11.size
    replace hE := hE.trans hE11
    replace hA := hA.ext hE11
    replace hB := hB.ext hE11
    replace hx := hx.ext hE11
    replace hB3 := hB3.ext hE11
    replace hB4 := hB4.ext hE11
    refine WL_q rfl (ev_pick_t rfl hg8 rfl) ?_
    refine WL_q rfl (ev_move rfl) ?_
    refine WL_splitv (t := 13) rfl (fun hg11 => ?_) (fun hg11 => ?_)
    · have hp11 := hb11.1 hg11
      refine WL_qg rfl rfl hg11 rfl (ev_loads st60 sz60 rfl (cellsB hB3) rfl) ?_
      refine WL_qg rfl rfl hg11 rfl (ev_loads st60 sz60 rfl (cellsB hB4) rfl) ?_
      refine WL_qg rfl rfl hg11 rfl (ev_move rfl) ?_
      refine WL_mg rfl rfl hg11 rfl (ev_call rfl (isPortMap_spec ha hb A B _ _ m _ hA hB hx (by omega) (by omega) (by omega) (by omega) (by omega) (by omega) hp8 hp11)) ?_
      rintro _ w17 ⟨b17, rfl, hb17, hE17⟩
      have hz17 := hE17.size
      replace hE := hE.trans hE17
      replace hA := hA.ext hE17
      replace hB := hB.ext hE17
      replace hx := hx.ext hE17
      replace hB3 := hB3.ext hE17
      replace hB4 := hB4.ext hE17
      refine WL_q rfl (ev_pick_t rfl hg11 rfl) ?_
      refine WL_q rfl (ev_assign rfl) ?_
      refine WL_nil ?_
      refine thenE_n ?_
      refine W_ret ?_
      refine ret1 rfl rfl ?_
      first | (exact ⟨_, rfl, ⟨fun ho => ⟨hp8, hp11, hb17.1 ho⟩, fun hk => hb17.2 hk.2.2⟩, hE⟩) | (exact ⟨_, rfl, ffI fun hk => hp8 hk.1, hE⟩) | (exact ⟨_, rfl, ffI fun hk => hp11 hk.2.1, hE⟩)
    · have hp11 := ttN hb11 hg11
      refine WL_no rfl rfl hg11 rfl ?_
      refine WL_no rfl rfl hg11 rfl ?_
      refine WL_no rfl rfl hg11 rfl ?_
      refine WL_no rfl rfl hg11 rfl ?_
      refine WL_q rfl (ev_pick_f rfl hg11 rfl) ?_
      refine WL_q rfl (ev_assign rfl) ?_
      refine WL_nil ?_
      refine thenE_n ?_
      refine W_ret ?_
      refine ret1 rfl rfl ?_
      first | (exact ⟨_, rfl, ⟨fun ho => ⟨hp8, hp11, hb17.1 ho⟩, fun hk => hb17.2 hk.2.2⟩, hE⟩) | (exact ⟨_, rfl, ffI fun hk => hp8 hk.1, hE⟩) | (exact ⟨_, rfl, ffI fun hk => hp11 hk.2.1, hE⟩)
  · have hp8 := ttN hb8 hg8
    refine WL_no rfl rfl hg8 rfl ?_
    refine WL_no rfl rfl hg8 rfl ?_
    refine WL_q rfl (ev_pick_f rfl hg8 rfl) ?_
    refine WL_q rfl (ev_move rfl) ?_
    refine WL_no rfl rfl rfl rfl ?_
    refine WL_no rfl rfl rfl rfl ?_
    refine WL_no rfl rfl rfl rfl ?_
    refine WL_no rfl rfl rfl rfl ?_
    refine WL_q rfl (ev_pick_f rfl rfl rfl) ?_
    refine WL_q rfl (ev_assign rfl) ?_
    refine WL_nil ?_
    refine thenE_n ?_
    refine W_ret ?_
    refine ret1 rfl rfl ?_
    first | (exact ⟨_, rfl, ⟨fun ho => ⟨hp8, hp11, hb17.1 ho⟩, fun hk => hb17.2 hk.2.2⟩, hE⟩) | (exact ⟨_, rfl, ffI fun hk => hp8 hk.1, hE⟩) | (exact ⟨_, rfl, ffI fun hk => hp11 hk.2.1, hE⟩)

/-- If it went well, the slice has the rows. -/
def OkRows (ok : Bool) (lo hi : Nat) (w : World) (E : TypeId) (a : Option Addr) (n' c' n : Nat) (xss : List (List Int)) : Prop := ok = true → n' = n ∧ c' = n ∧ ∃ b, a = some ⟨b, 0, none⟩ ∧ ORows intF 1 lo hi w E b xss
theorem OkRows.ext {ok : Bool} {lo hi : Nat} {w w' : World} {E : TypeId} {a : Option Addr} {n' c' n : Nat} {xss : List (List Int)} (h : OkRows ok lo hi w E a n' c' n xss) (k : Ext w w') : OkRows ok lo hi w' E a n' c' n xss := fun ho => by
  obtain ⟨h1, h2, b, h3, h4⟩ := h ho; exact ⟨h1, h2, b, h3, h4.ext k⟩
theorem OkRows.sto {ok : Bool} {lo hi : Nat} {w w' : World} {E : TypeId} {a : Option Addr} {n' c' n : Nat} {xss : List (List Int)} {b : Nat} {T : TypeId} {ds : List Value} (h : OkRows ok lo hi w E a n' c' n xss) (k : Sto w w' b T ds) (hb : b < lo ∨ hi ≤ b) : OkRows ok lo hi w' E a n' c' n xss := fun ho => by
  obtain ⟨h1, h2, b, h3, h4⟩ := h ho; exact ⟨h1, h2, b, h3, h4.sto k hb⟩

set_option maxRecDepth 100000 in
theorem FibresOf_spec {lo hi lo2 hi2 lo3 hi3 : Nat} (ha hb : NA) (A B : Net) (a : Option Addr) (c : Nat) (m : List Int) (w : World) (hA : IsNet lo hi w ha A) (hB : IsNet lo2 hi2 w hb B) (hx : Ints lo3 hi3 w a c m) (hhi : hi ≤ w.heap.size) (hhi2 : hi2 ≤ w.heap.size) (hhi3 : hi3 ≤ w.heap.size) (hnA : totN A ≤ 1048576) (hnB : totN B ≤ 1048576) (hm : m.length ≤ 1048576) :
    Fn Try.prog 100 #[netV ha A, netV hb B, .slice a m.length c] w (fun v w' => ∃ a' n' c' ok, v = .tuple #[.slice a' n' c', VB ok] ∧ (ok = true ↔ (NOk A ∧ NOk B ∧ IsPM A B m)) ∧ OkRows ok w.heap.size w'.heap.size w' 3 a' n' c' B.ends.length (fibs m B.ends.length) ∧ Ext w w') := by
  have hlB : B.ends.length ≤ totN B := by unfold totN; have := totL_len B.ends; omega
  have hE := Ext.refl w
  refine Fn_of Try.func100 rfl rfl (by kernel_rfl) rfl ?_
  refine W_seq ?_
  refine W_region ?_
  refine WL_m rfl (ev_box rfl) ?_
  rintro _ w3 ⟨rfl, hN3⟩
  have hz3 := hN3.size
  replace hE := hE.trans hN3.ext
  replace hA := hA.ext hN3.ext
  replace hB := hB.ext hN3.ext
  replace hx := hx.ext hN3.ext
  have hB3 : Blk w3 _ _ [_, _, _] := hN3.blk
  refine WL_m rfl (ev_box rfl) ?_
  rintro _ w4 ⟨rfl, hN4⟩
  have hz4 := hN4.size
  replace hE := hE.trans hN4.ext
  replace hA := hA.ext hN4.ext
  replace hB := hB.ext hN4.ext
  replace hx := hx.ext hN4.ext
  replace hB3 := hB3.ext hN4.ext
  have hB4 : Blk w4 _ _ [_, _, _] := hN4.blk
  refine WL_q rfl (ev_assign rfl) ?_
  refine WL_q rfl (ev_assign rfl) ?_
  refine WL_nil ?_
  refine thenE_n ?_
  refine W_seq ?_
  refine W_seq ?_
  refine W_region ?_
  refine WL_q rfl (ev_loads st60 sz60 rfl (cellsB hB3) rfl) ?_
  refine WL_q rfl (ev_loads st60 sz60 rfl (cellsB hB4) rfl) ?_
  refine WL_q rfl (ev_move rfl) ?_
  refine WL_m rfl (ev_call rfl (mapOk_spec ha hb A B _ _ m _ hA hB hx (by omega) (by omega) (by omega) (by omega) (by omega) (by omega))) ?_
  rintro _ w11 ⟨b11, rfl, hb11, hE11⟩
  have hz11 := hE11.size
  replace hE := hE.trans hE11
  replace hA := hA.ext hE11
  replace hB := hB.ext hE11
  replace hx := hx.ext hE11
  replace hB3 := hB3.ext hE11
  replace hB4 := hB4.ext hE11
  refine WL_q rfl (ev_not rfl) ?_
  refine WL_nil ?_
  refine thenE_n ?_
  refine W_cond rfl (fun hg12 => ?_) (fun hg12 => ?_)
  · have hg11 := not_true hg12
    have hp11 := ttN hb11 hg11
    refine W_seq ?_
    refine W_region ?_
    refine WL_q rfl (ev_assign rfl) ?_
    refine WL_q rfl (ev_assign rfl) ?_
    refine WL_nil ?_
    refine thenE_n ?_
    refine W_ret ?_
    refine thenE_r ?_
    refine ret2 rfl rfl rfl ?_
    first | (exact ⟨_, _, _, false, rfl, ffI hp11, fun h => (tfF h.symm).elim, hE⟩) | (exact ⟨_, _, _, true, rfl, ttI hp11, fun _ => ⟨rfl, rfl, _, rfl, hR17.mono (by omega) (Nat.le_refl _)⟩, hE⟩)
  · have hg11 := not_false hg12
    have hp11 := hb11.1 hg11
    refine W_skip ?_
    refine thenE_n ?_
    refine W_seq ?_
    refine W_region ?_
    refine WL_q rfl (ev_move rfl) ?_
    refine WL_q rfl (ev_fieldAddr fo60_0 rfl) ?_
    refine WL_q rfl (ev_load one58 rfl (hB4.cell rfl)) ?_
    refine WL_q rfl (ev_len Try.underlying58 rfl) ?_
    refine WL_m rfl (ev_call rfl (fibres_spec _ _ m B.ends.length _ hx (by omega) (fun x hx => allR_true.1 hp11.2.2.rng x hx) (by omega) (by omega))) ?_
    rintro _ w17 ⟨b17, rfl, hR17, hE17⟩
    have hz17 := hE17.size
    replace hE := hE.trans hE17
    replace hA := hA.ext hE17
    replace hB := hB.ext hE17
    replace hx := hx.ext hE17
    replace hB3 := hB3.ext hE17
    replace hB4 := hB4.ext hE17
    refine WL_q rfl (ev_assign rfl) ?_
    refine WL_q rfl (ev_assign rfl) ?_
    refine WL_nil ?_
    refine thenE_n ?_
    refine W_ret ?_
    refine ret2 rfl rfl rfl ?_
    first | (exact ⟨_, _, _, false, rfl, ffI hp11, fun h => (tfF h.symm).elim, hE⟩) | (exact ⟨_, _, _, true, rfl, ttI hp11, fun _ => ⟨rfl, rfl, _, rfl, hR17.mono (by omega) (Nat.le_refl _)⟩, hE⟩)

def SHC (A B : Net) (m : List Int) : Prop := (NOk A ∧ NOk B ∧ IsPM A B m) ∧ ∀ r ∈ fibs m B.ends.length, (r.length : Int) = (((fibs m B.ends.length).headD []).length : Int)
def SHR (A B : Net) (m : List Int) (r : Int) (q : Bool) : Prop := (SHC A B m ∧ r = (((fibs m B.ends.length).headD []).length : Int) ∧ q = true) ∨ (¬ SHC A B m ∧ r = 0 ∧ q = false)
theorem SHR.det1 {A B : Net} {m : List Int} {r r' : Int} {q q' : Bool} (h : SHR A B m r q) (k : SHR A B m r' q') : r = r' := by
  rcases h with ⟨h1, h2, h3⟩ | ⟨h1, h2, h3⟩ <;> rcases k with ⟨k1, k2, k3⟩ | ⟨k1, k2, k3⟩
  · omega
  · exact absurd h1 k1
  · exact absurd k1 h1
  · omega
theorem SHR.det2 {A B : Net} {m : List Int} {r r' : Int} {q q' : Bool} (h : SHR A B m r q) (k : SHR A B m r' q') : q = q' := by
  rcases h with ⟨h1, h2, h3⟩ | ⟨h1, h2, h3⟩ <;> rcases k with ⟨k1, k2, k3⟩ | ⟨k1, k2, k3⟩
  · rw [h3, k3]
  · exact absurd h1 k1
  · exact absurd k1 h1
  · rw [h3, k3]
theorem any_ne {xs : List (List Int)} {k : Int} (h : xs.any (fun r => decide ((r.length : Int) ≠ k)) = false) : ∀ r ∈ xs, (r.length : Int) = k := by
  intro r hr
  have := List.any_eq_false.1 h r hr
  simpa using this
theorem any_ne' {xs : List (List Int)} {k : Int} (h : xs.any (fun r => decide ((r.length : Int) ≠ k)) = true) (hk : ∀ r ∈ xs, (r.length : Int) = k) : False := by
  obtain ⟨r, hr, h2⟩ := List.any_eq_true.1 h
  exact (of_decide_eq_true h2) (hk r hr)

set_option maxRecDepth 100000 in
theorem sSheetsOf_spec {lo hi lo2 hi2 lo3 hi3 : Nat} (ha hb : NA) (A B : Net) (a : Option Addr) (c : Nat) (m : List Int) (w : World) (hA : IsNet lo hi w ha A) (hB : IsNet lo2 hi2 w hb B) (hx : Ints lo3 hi3 w a c m) (hhi : hi ≤ w.heap.size) (hhi2 : hi2 ≤ w.heap.size) (hhi3 : hi3 ≤ w.heap.size) (hnA : totN A ≤ 1048576) (hnB : totN B ≤ 1048576) (hm : m.length ≤ 1048576) :
    Fn Try.prog 49 #[netV ha A, netV hb B, .slice a m.length c] w (fun v w' => ∃ r q, v = .tuple #[VI r, VB q] ∧ SHR A B m r q ∧ Ext w w') := by
  have hlB : B.ends.length ≤ totN B := by unfold totN; have := totL_len B.ends; omega
  have hfl := fibs_len m B.ends.length
  have hE := Ext.refl w
  refine Fn_of Try.func49 rfl rfl (by kernel_rfl) rfl ?_
  refine W_seq ?_
  refine W_region ?_
  refine WL_m rfl (ev_box rfl) ?_
  rintro _ w3 ⟨rfl, hN3⟩
  have hz3 := hN3.size
  replace hE := hE.trans hN3.ext
  replace hA := hA.ext hN3.ext
  replace hB := hB.ext hN3.ext
  replace hx := hx.ext hN3.ext
  have hB3 : Blk w3 _ _ [_, _, _] := hN3.blk
  refine WL_m rfl (ev_box rfl) ?_
  rintro _ w4 ⟨rfl, hN4⟩
  have hz4 := hN4.size
  replace hE := hE.trans hN4.ext
  replace hA := hA.ext hN4.ext
  replace hB := hB.ext hN4.ext
  replace hx := hx.ext hN4.ext
  replace hB3 := hB3.ext hN4.ext
  have hB4 : Blk w4 _ _ [_, _, _] := hN4.blk
  refine WL_q rfl (ev_assign rfl) ?_
  refine WL_q rfl (ev_assign rfl) ?_
  refine WL_nil ?_
  refine thenE_n ?_
  refine W_seq ?_
  refine W_seq ?_
  refine W_region ?_
  refine WL_q rfl (ev_loads st60 sz60 rfl (cellsB hB3) rfl) ?_
  refine WL_q rfl (ev_loads st60 sz60 rfl (cellsB hB4) rfl) ?_
  refine WL_q rfl (ev_move rfl) ?_
  refine WL_m rfl (ev_call rfl (coAsked_spec ha hb A B _ _ m _ hA hB hx (by omega) (by omega) (by omega) (by omega) (by omega) (by omega))) ?_
  rintro _ w14 ⟨b14, rfl, hb14, hE14⟩
  have hz14 := hE14.size
  replace hE := hE.trans hE14
  replace hA := hA.ext hE14
  replace hB := hB.ext hE14
  replace hx := hx.ext hE14
  replace hB3 := hB3.ext hE14
  replace hB4 := hB4.ext hE14
  refine WL_q rfl (ev_not rfl) ?_
  refine WL_nil ?_
  refine thenE_n ?_
  refine W_cond rfl (fun hg15 => ?_) (fun hg15 => ?_)
  · have hg14 := not_true hg15
    have hp14 := ttN hb14 hg14
    refine W_seq ?_
    refine W_region ?_
    refine WL_q rfl (ev_assign rfl) ?_
    refine WL_q rfl (ev_assign rfl) ?_
    refine WL_nil ?_
    refine thenE_n ?_
    refine W_ret ?_
    refine thenE_r ?_
    refine ret2 rfl rfl rfl ?_
    first | (exact ⟨_, _, rfl, .inr ⟨fun hk => hp14 hk.1, rfl, rfl⟩, hE⟩) | (refine ⟨_, _, rfl, .inr ⟨fun hk => ?_, rfl, rfl⟩, hE⟩; have h9 := hk.2 _ (List.getElem_mem (show i < (fibs m B.ends.length).length by omega)); rw [hhd] at h9; exact absurd h9 hp31) | (refine ⟨_, _, rfl, .inl ⟨⟨hp14, ?_⟩, by rw [hhd], rfl⟩, hE⟩; rw [hhd]; exact all_of_idx (p := fun r : List Int => (r.length : Int) = ((fibs m B.ends.length)[0]).length) hJ (by omega))
  · have hg14 := not_false hg15
    have hp14 := hb14.1 hg14
    refine W_skip ?_
    refine thenE_n ?_
    refine W_seq ?_
    refine W_region ?_
    refine WL_q rfl (ev_loads st60 sz60 rfl (cellsB hB4) rfl) ?_
    refine WL_q rfl (ev_move rfl) ?_
    refine WL_m rfl (ev_call rfl (coFibres_spec hb B _ _ m _ hx (by omega) (fun x hx => allR_true.1 hp14.2.2.rng x hx) (by omega) (by omega))) ?_
    rintro _ w18 ⟨b18, rfl, hR18, hE18⟩
    have hz18 := hE18.size
    replace hE := hE.trans hE18
    replace hA := hA.ext hE18
    replace hB := hB.ext hE18
    replace hx := hx.ext hE18
    replace hB3 := hB3.ext hE18
    replace hB4 := hB4.ext hE18
    have hpos := hp14.2.1.nodes
    have h0 : 0 < (fibs m B.ends.length).length := by omega
    have hhd := headD_eq h0
    have hI := hR18.is (c := B.ends.length) (by omega)
    refine WL_q rfl (ev_assign rfl) ?_
    refine WL_nil ?_
    refine thenE_n ?_
    refine W_seq ?_
    refine W_seq ?_
    refine W_region ?_
    refine WL_q rfl (ev_move rfl) ?_
    refine WL_q rfl (ev_len Try.underlying31 rfl) ?_
    refine WL_q rfl (ev_move rfl) ?_
    refine WL_nil ?_
    refine thenE_n ?_
    refine W_block ?_
    refine W_loopC (G := Nat) [(8, _), (19, _), (20, _)] ((Subs.c rfl (Subs.c rfl (Subs.c rfl Subs.n)))) (fun i => [(21, VI (i : Int))]) (fun i w' => Ext w18 w' ∧ i ≤ B.ends.length ∧ ∀ j (_h : j < i) (h2 : j < (fibs m B.ends.length).length), (((fibs m B.ends.length)[j]).length : Int) = ((fibs m B.ends.length)[0]).length) (fun i => B.ends.length - i) 0 ((Subs.c (lkI rfl (by omega)) Subs.n)) (⟨Ext.refl _, ⟨by omega, fun j h => by omega⟩⟩) ?_
    rintro i wL0 ⟨hRL0, hi', hJ⟩
    have hzL0 := hRL0.size
    replace hE := hE.trans hRL0
    replace hA := hA.ext hRL0
    replace hB := hB.ext hRL0
    replace hx := hx.ext hRL0
    replace hB3 := hB3.ext hRL0
    replace hB4 := hB4.ext hRL0
    replace hI := hI.ext hRL0
    refine W_seq ?_
    refine W_region ?_
    refine WL_q rfl (ev_lss rfl rfl) ?_
    refine WL_nil ?_
    refine thenE_n ?_
    refine W_seq ?_
    refine W_cond rfl (fun hg22 => ?_) (fun hg22 => ?_)
    · have hp22 := of_decide_eq_true hg22
      refine W_skip ?_
      refine thenE_n ?_
      refine W_seq ?_
      refine W_block ?_
      refine W_seq ?_
      refine W_region ?_
      obtain ⟨a2, c2, hc2, hr2⟩ := hI.row (i := i) (by omega)
      refine WL_q rfl (ev_indexAddr Try.underlying31 sz33 rfl rfl (hI.isSome (by omega)) (by omega) (by omega)) ?_
      refine WL_q rfl (ev_load one33 rfl (hc2)) ?_
      refine WL_q rfl (ev_assign rfl) ?_
      refine WL_nil ?_
      refine thenE_n ?_
      refine W_seq ?_
      refine W_region ?_
      refine WL_q rfl (ev_move rfl) ?_
      refine WL_q rfl (ev_len Try.underlying33 rfl) ?_
      refine WL_q rfl (ev_move rfl) ?_
      obtain ⟨a3, c3, hc3, hr3⟩ := hI.row h0
      refine WL_q rfl (ev_indexAddr Try.underlying31 sz33 rfl rfl (hI.isSome (by omega)) (by omega) (by omega)) ?_
      refine WL_q rfl (ev_load one33 rfl (hc3)) ?_
      refine WL_q rfl (ev_len Try.underlying33 rfl) ?_
      refine WL_q rfl (ev_neq rfl rfl) ?_
      refine WL_nil ?_
      refine thenE_n ?_
      refine W_cond rfl (fun hg31 => ?_) (fun hg31 => ?_)
      · have hp31 := of_decide_eq_true hg31
        refine W_seq ?_
        refine W_region ?_
        refine WL_q rfl (ev_assign rfl) ?_
        refine WL_q rfl (ev_assign rfl) ?_
        refine WL_nil ?_
        refine thenE_n ?_
        refine W_ret ?_
        refine blockE_r ?_
        refine thenE_r ?_
        refine thenE_r ?_
        refine blockE_r ?_
        refine thenE_r ?_
        refine ret2 rfl rfl rfl ?_
        first | (exact ⟨_, _, rfl, .inr ⟨fun hk => hp14 hk.1, rfl, rfl⟩, hE⟩) | (refine ⟨_, _, rfl, .inr ⟨fun hk => ?_, rfl, rfl⟩, hE⟩; have h9 := hk.2 _ (List.getElem_mem (show i < (fibs m B.ends.length).length by omega)); rw [hhd] at h9; exact absurd h9 hp31) | (refine ⟨_, _, rfl, .inl ⟨⟨hp14, ?_⟩, by rw [hhd], rfl⟩, hE⟩; rw [hhd]; exact all_of_idx (p := fun r : List Int => (r.length : Int) = ((fibs m B.ends.length)[0]).length) hJ (by omega))
      · have hp31 := of_decide_eq_false hg31
        refine W_skip ?_
        refine blockE_n ?_
        refine thenE_n ?_
        refine W_region ?_
        refine WL_q rfl (ev_add rfl rfl (by omega)) ?_
        refine WL_q rfl (ev_move rfl) ?_
        refine WL_nil ?_
        refine thenE_n ?_
        exact ⟨i + 1, (Subs.c rfl (Subs.c rfl (Subs.c rfl Subs.n))), (Subs.c (lkI rfl (by omega)) Subs.n), ⟨hRL0, ⟨by omega, dsucc (P := fun j h2 => (((fibs m B.ends.length)[j]).length : Int) = ((fibs m B.ends.length)[0]).length) hJ (by omega) (by omega)⟩⟩, by first | omega | (dsimp only; omega)⟩
    · have hp22 := of_decide_eq_false hg22
      refine W_exit ?_
      refine thenE_x ?_
      refine thenE_x ?_
      refine blockE_hit ?_
      refine thenE_n ?_
      refine W_seq ?_
      refine W_region ?_
      refine WL_q rfl (ev_move rfl) ?_
      obtain ⟨a4, c4, hc4, hr4⟩ := hI.row h0
      refine WL_q rfl (ev_indexAddr Try.underlying31 sz33 rfl rfl (hI.isSome (by omega)) (by omega) (by omega)) ?_
      refine WL_q rfl (ev_load one33 rfl (hc4)) ?_
      refine WL_q rfl (ev_len Try.underlying33 rfl) ?_
      refine WL_q rfl (ev_assign rfl) ?_
      refine WL_q rfl (ev_assign rfl) ?_
      refine WL_nil ?_
      refine thenE_n ?_
      refine W_ret ?_
      refine ret2 rfl rfl rfl ?_
      first | (exact ⟨_, _, rfl, .inr ⟨fun hk => hp14 hk.1, rfl, rfl⟩, hE⟩) | (refine ⟨_, _, rfl, .inr ⟨fun hk => ?_, rfl, rfl⟩, hE⟩; have h9 := hk.2 _ (List.getElem_mem (show i < (fibs m B.ends.length).length by omega)); rw [hhd] at h9; exact absurd h9 hp31) | (refine ⟨_, _, rfl, .inl ⟨⟨hp14, ?_⟩, by rw [hhd], rfl⟩, hE⟩; rw [hhd]; exact all_of_idx (p := fun r : List Int => (r.length : Int) = ((fibs m B.ends.length)[0]).length) hJ (by omega))

set_option maxRecDepth 100000 in
theorem SheetsOf_1 {lo hi : Nat} (a a2 : Option Addr) (n n2 c c2 : Nat) (b : Nat) (T : TypeId) (xss : List (List Int)) (w : World) (hB : Blk w b T [.slice a2 n2 c2]) (hl : n2 = xss.length) (hI : Intss lo hi w a2 c2 xss) (h0 : 0 < xss.length) :
    Fn Try.prog 102 #[.slice a n c, ptr b 0] w (fun v w' => v = VB (decide ((n : Int) ≠ ((xss.headD []).length : Int))) ∧ Ext w w') := by
  subst hl
  have hhd := headD_eq h0
  have hE := Ext.refl w
  refine Fn_of Try.func102 rfl rfl (by kernel_rfl) rfl ?_
  refine W_seq ?_
  refine W_region ?_
  refine WL_q rfl (ev_assign rfl) ?_
  refine WL_nil ?_
  refine thenE_n ?_
  refine W_seq ?_
  refine W_region ?_
  refine WL_q rfl (ev_move rfl) ?_
  refine WL_q rfl (ev_len Try.underlying33 rfl) ?_
  refine WL_q rfl (ev_load one31 rfl (hB.cell rfl)) ?_
  obtain ⟨a3, c3, hc3, hr3⟩ := hI.row h0
  refine WL_q rfl (ev_indexAddr Try.underlying31 sz33 rfl rfl (hI.isSome (by omega)) (by omega) (by omega)) ?_
  refine WL_q rfl (ev_load one33 rfl (hc3)) ?_
  refine WL_q rfl (ev_len Try.underlying33 rfl) ?_
  refine WL_q rfl (ev_neq rfl rfl) ?_
  refine WL_q rfl (ev_assign rfl) ?_
  refine WL_nil ?_
  refine thenE_n ?_
  refine W_ret ?_
  refine ret1 rfl rfl ?_
  refine ⟨?_, hE⟩; rw [hhd]

set_option maxRecDepth 100000 in
theorem SheetsOf_spec {lo hi lo2 hi2 lo3 hi3 : Nat} (ha hb : NA) (A B : Net) (a : Option Addr) (c : Nat) (m : List Int) (w : World) (hA : IsNet lo hi w ha A) (hB : IsNet lo2 hi2 w hb B) (hx : Ints lo3 hi3 w a c m) (hhi : hi ≤ w.heap.size) (hhi2 : hi2 ≤ w.heap.size) (hhi3 : hi3 ≤ w.heap.size) (hnA : totN A ≤ 1048576) (hnB : totN B ≤ 1048576) (hm : m.length ≤ 1048576) :
    Fn Try.prog 50 #[netV ha A, netV hb B, .slice a m.length c] w (fun v w' => ∃ r q, v = .tuple #[VI r, VB q] ∧ SHR A B m r q ∧ Ext w w') := by
  have hlB : B.ends.length ≤ totN B := by unfold totN; have := totL_len B.ends; omega
  have hfl := fibs_len m B.ends.length
  have hE := Ext.refl w
  refine Fn_of Try.func50 rfl rfl (by kernel_rfl) rfl ?_
  refine W_seq ?_
  refine W_region ?_
  refine WL_m rfl (ev_box rfl) ?_
  rintro _ w3 ⟨rfl, hN3⟩
  have hz3 := hN3.size
  replace hE := hE.trans hN3.ext
  replace hA := hA.ext hN3.ext
  replace hB := hB.ext hN3.ext
  replace hx := hx.ext hN3.ext
  have hB3 : Blk w3 _ _ [_, _, _] := hN3.blk
  refine WL_m rfl (ev_box rfl) ?_
  rintro _ w4 ⟨rfl, hN4⟩
  have hz4 := hN4.size
  replace hE := hE.trans hN4.ext
  replace hA := hA.ext hN4.ext
  replace hB := hB.ext hN4.ext
  replace hx := hx.ext hN4.ext
  replace hB3 := hB3.ext hN4.ext
  have hB4 : Blk w4 _ _ [_, _, _] := hN4.blk
  refine WL_q rfl (ev_assign rfl) ?_
  refine WL_q rfl (ev_assign rfl) ?_
  refine WL_nil ?_
  refine thenE_n ?_
  refine W_seq ?_
  refine W_region ?_
  refine WL_q rfl (ev_loads st60 sz60 rfl (cellsB hB3) rfl) ?_
  refine WL_q rfl (ev_loads st60 sz60 rfl (cellsB hB4) rfl) ?_
  refine WL_q rfl (ev_move rfl) ?_
  refine WL_m rfl (ev_call rfl (FibresOf_spec ha hb A B _ _ m _ hA hB hx (by omega) (by omega) (by omega) (by omega) (by omega) (by omega))) ?_
  rintro _ w14 ⟨a14, n14, c14, q14, rfl, hq14, hOk14, hE14⟩
  have hz14 := hE14.size
  replace hE := hE.trans hE14
  replace hA := hA.ext hE14
  replace hB := hB.ext hE14
  replace hx := hx.ext hE14
  replace hB3 := hB3.ext hE14
  replace hB4 := hB4.ext hE14
  refine WL_q rfl (ev_move rfl) ?_
  refine WL_q rfl (ev_extract rfl rfl) ?_
  refine WL_q rfl (ev_extract rfl rfl) ?_
  refine WL_m rfl (ev_alloc zr31) ?_
  rintro _ w8 ⟨rfl, hN8⟩
  have hz8 := hN8.size
  replace hE := hE.trans hN8.ext
  replace hA := hA.ext hN8.ext
  replace hB := hB.ext hN8.ext
  replace hx := hx.ext hN8.ext
  replace hB3 := hB3.ext hN8.ext
  replace hB4 := hB4.ext hN8.ext
  replace hOk14 := hOk14.ext hN8.ext
  have hB8 : Blk w8 _ _ [_] := hN8.blk
  refine WL_s (ev_store sz31 rfl rfl rfl hB8 (by simp)) ?_
  rintro _ w1_8 hS1_8
  have hz1_8 := hS1_8.size
  replace hE := hE.sto hS1_8 (by omega)
  replace hA := hA.sto hS1_8 (by omega)
  replace hB := hB.sto hS1_8 (by omega)
  replace hx := hx.sto hS1_8 (by omega)
  replace hB3 := hB3.sto hS1_8 (by omega)
  replace hB4 := hB4.sto hS1_8 (by omega)
  replace hOk14 := hOk14.sto hS1_8 (by omega)
  replace hB8 : Blk w1_8 _ _ [_] := hS1_8.blk
  refine WL_q rfl (ev_assign rfl) ?_
  refine WL_nil ?_
  refine thenE_n ?_
  refine W_seq ?_
  refine W_seq ?_
  refine W_region ?_
  refine WL_q rfl (ev_move rfl) ?_
  refine WL_q rfl (ev_not rfl) ?_
  refine WL_q rfl (ev_move rfl) ?_
  refine WL_splitv (t := 19) rfl (fun hg18 => ?_) (fun hg18 => ?_)
  · have hg16 := not_true hg18
    refine WL_no rfl rfl hg18 rfl ?_
    refine WL_no rfl rfl hg18 rfl ?_
    refine WL_no rfl rfl hg18 rfl ?_
    refine WL_q rfl (ev_pick_t rfl hg18 rfl) ?_
    refine WL_nil ?_
    refine thenE_n ?_
    refine W_cond_t rfl ?_
    refine W_seq ?_
    refine W_region ?_
    refine WL_q rfl (ev_assign rfl) ?_
    refine WL_q rfl (ev_assign rfl) ?_
    refine WL_nil ?_
    refine thenE_n ?_
    refine W_ret ?_
    refine thenE_r ?_
    refine ret2 rfl rfl rfl ?_
    first | (exact ⟨_, _, rfl, .inl ⟨⟨hC, any_ne hg22⟩, by rw [hhd], rfl⟩, hE⟩) | (exact ⟨_, _, rfl, .inr ⟨fun hk => any_ne' hg22 hk.2, rfl, rfl⟩, hE⟩) | (refine ⟨_, _, rfl, .inr ⟨fun hk => ?_, rfl, rfl⟩, hE⟩; have := hq14.2 hk.1; simp_all)
  · have hg16 := not_false hg18
    have hok : q14 = true := by first | assumption | simp_all
    have hC := hq14.1 hok
    obtain ⟨rfl, rfl, b9, rfl, hR⟩ := hOk14 hok
    have hpos := hC.2.1.nodes
    have h0 : 0 < (fibs m B.ends.length).length := by omega
    have hhd := headD_eq h0
    have hI := hR.is (c := B.ends.length) (by omega)
    refine WL_qg rfl rfl hg18 rfl (ev_load one31 rfl (hB8.cell rfl)) ?_
    refine WL_qg rfl rfl hg18 rfl (ev_makeFunc rfl rfl) ?_
    refine WL_mg rfl rfl hg18 rfl (ev_call rfl (rows_len (cap := [_]) (p := fun r => decide ((r.length : Int) ≠ (((fibs m B.ends.length).headD []).length : Int))) hfl.symm hI (by omega) (fun i h a2 c2 w1 hw _ => SheetsOf_1 _ _ _ _ _ _ _ _ _ w1 (hB8.ext hw) hfl.symm (hI.ext hw) h0))) ?_
    rintro _ w22 ⟨rfl, hE22⟩
    have hz22 := hE22.size
    replace hE := hE.trans hE22
    replace hA := hA.ext hE22
    replace hB := hB.ext hE22
    replace hx := hx.ext hE22
    replace hB3 := hB3.ext hE22
    replace hB4 := hB4.ext hE22
    replace hOk14 := hOk14.ext hE22
    replace hB8 := hB8.ext hE22
    replace hI := hI.ext hE22
    refine WL_q rfl (ev_pick_f rfl hg18 rfl) ?_
    refine WL_nil ?_
    refine thenE_n ?_
    refine W_cond rfl (fun hg22 => ?_) (fun hg22 => ?_)
    · refine W_seq ?_
      refine W_region ?_
      refine WL_q rfl (ev_assign rfl) ?_
      refine WL_q rfl (ev_assign rfl) ?_
      refine WL_nil ?_
      refine thenE_n ?_
      refine W_ret ?_
      refine thenE_r ?_
      refine ret2 rfl rfl rfl ?_
      first | (exact ⟨_, _, rfl, .inl ⟨⟨hC, any_ne hg22⟩, by rw [hhd], rfl⟩, hE⟩) | (exact ⟨_, _, rfl, .inr ⟨fun hk => any_ne' hg22 hk.2, rfl, rfl⟩, hE⟩) | (refine ⟨_, _, rfl, .inr ⟨fun hk => ?_, rfl, rfl⟩, hE⟩; have := hq14.2 hk.1; simp_all)
    · refine W_skip ?_
      refine thenE_n ?_
      refine W_seq ?_
      refine W_region ?_
      refine WL_q rfl (ev_load one31 rfl (hB8.cell rfl)) ?_
      obtain ⟨a4, c4, hc4, hr4⟩ := hI.row h0
      refine WL_q rfl (ev_indexAddr Try.underlying31 sz33 rfl rfl (hI.isSome (by omega)) (by omega) (by omega)) ?_
      refine WL_q rfl (ev_load one33 rfl (hc4)) ?_
      refine WL_q rfl (ev_len Try.underlying33 rfl) ?_
      refine WL_q rfl (ev_assign rfl) ?_
      refine WL_q rfl (ev_assign rfl) ?_
      refine WL_nil ?_
      refine thenE_n ?_
      refine W_ret ?_
      refine ret2 rfl rfl rfl ?_
      first | (exact ⟨_, _, rfl, .inl ⟨⟨hC, any_ne hg22⟩, by rw [hhd], rfl⟩, hE⟩) | (exact ⟨_, _, rfl, .inr ⟨fun hk => any_ne' hg22 hk.2, rfl, rfl⟩, hE⟩) | (refine ⟨_, _, rfl, .inr ⟨fun hk => ?_, rfl, rfl⟩, hE⟩; have := hq14.2 hk.1; simp_all)

set_option maxRecDepth 100000 in
theorem law_SheetsOf (ha hb : NA) (A B : Net) (a : Option Addr) (c : Nat) (m : List Int) (w : World) (hA : IsNet 0 w.heap.size w ha A) (hsA : SmN A) (hB : IsNet 0 w.heap.size w hb B) (hsB : SmN B) (hx : Ints 0 w.heap.size w a c m) :
    Fn Try.prog 13 #[netV ha A, netV hb B, .slice a m.length c] w (fun v w' => v = VB true ∧ Ext w w') := by
  have hE := Ext.refl w
  refine Fn_of Try.func13 rfl rfl (by kernel_rfl) rfl ?_
  refine W_seq ?_
  refine W_region ?_
  refine WL_m rfl (ev_box rfl) ?_
  rintro _ w3 ⟨rfl, hN3⟩
  have hz3 := hN3.size
  replace hE := hE.trans hN3.ext
  replace hA := hA.ext hN3.ext
  replace hB := hB.ext hN3.ext
  replace hx := hx.ext hN3.ext
  have hB3 : Blk w3 _ _ [_, _, _] := hN3.blk
  refine WL_m rfl (ev_box rfl) ?_
  rintro _ w4 ⟨rfl, hN4⟩
  have hz4 := hN4.size
  replace hE := hE.trans hN4.ext
  replace hA := hA.ext hN4.ext
  replace hB := hB.ext hN4.ext
  replace hx := hx.ext hN4.ext
  replace hB3 := hB3.ext hN4.ext
  have hB4 : Blk w4 _ _ [_, _, _] := hN4.blk
  refine WL_q rfl (ev_assign rfl) ?_
  refine WL_nil ?_
  refine thenE_n ?_
  refine W_seq ?_
  refine W_seq ?_
  refine W_region ?_
  refine WL_q rfl (ev_move rfl) ?_
  refine WL_q rfl (ev_len Try.underlying33 rfl) ?_
  refine WL_q rfl (ev_gtr rfl rfl) ?_
  refine WL_nil ?_
  refine thenE_n ?_
  refine W_cond rfl (fun hg17 => ?_) (fun hg17 => ?_)
  · have hp17 := of_decide_eq_true hg17
    refine W_seq ?_
    refine W_region ?_
    refine WL_q rfl (ev_assign rfl) ?_
    refine WL_nil ?_
    refine thenE_n ?_
    refine W_ret ?_
    refine thenE_r ?_
    refine ret1 rfl rfl ?_
    first | (exact ⟨rfl, hE⟩) | (exact absurd (hr48.det1 hr35) hp53) | (exact (bneE hg57 (hr48.det2 hr35)).elim) | (exact (decF hg72).elim) | (exact (tfF hg62).elim) | (exact (tfF hg67).elim)
  · have hp17 := of_decide_eq_false hg17
    refine W_skip ?_
    refine thenE_n ?_
    refine W_seq ?_
    refine W_region ?_
    refine WL_q rfl (ev_assign rfl) ?_
    refine WL_nil ?_
    refine thenE_n ?_
    refine W_seq ?_
    refine W_region ?_
    refine WL_q rfl (ev_loads st55 sz55 rfl (cellsB hB3) rfl) ?_
    refine WL_q rfl (ev_move rfl) ?_
    refine WL_m rfl (ev_call rfl (szNetwork_spec ha A _ _ hA (by omega) hsA)) ?_
    rintro _ w20 ⟨r20, rfl, hE20, hr20⟩
    have hz20 := hE20.size
    replace hE := hE.trans hE20
    replace hA := hA.ext hE20
    replace hB := hB.ext hE20
    replace hx := hx.ext hE20
    replace hB3 := hB3.ext hE20
    replace hB4 := hB4.ext hE20
    refine WL_q rfl (ev_assign rfl) ?_
    refine WL_nil ?_
    refine thenE_n ?_
    refine W_seq ?_
    refine W_seq ?_
    refine W_region ?_
    refine WL_q rfl (ev_move rfl) ?_
    refine WL_q rfl (ev_lss rfl rfl) ?_
    refine WL_nil ?_
    refine thenE_n ?_
    refine W_cond rfl (fun hg22 => ?_) (fun hg22 => ?_)
    · have hp22 := of_decide_eq_true hg22
      refine W_seq ?_
      refine W_region ?_
      refine WL_q rfl (ev_assign rfl) ?_
      refine WL_nil ?_
      refine thenE_n ?_
      refine W_ret ?_
      refine thenE_r ?_
      refine ret1 rfl rfl ?_
      first | (exact ⟨rfl, hE⟩) | (exact absurd (hr48.det1 hr35) hp53) | (exact (bneE hg57 (hr48.det2 hr35)).elim) | (exact (decF hg72).elim) | (exact (tfF hg62).elim) | (exact (tfF hg67).elim)
    · have hp22 := of_decide_eq_false hg22
      refine W_skip ?_
      refine thenE_n ?_
      refine W_seq ?_
      refine W_region ?_
      refine WL_q rfl (ev_loads st55 sz55 rfl (cellsB hB4) rfl) ?_
      refine WL_q rfl (ev_move rfl) ?_
      refine WL_m rfl (ev_call rfl (szNetwork_spec hb B _ _ hB (by omega) hsB)) ?_
      rintro _ w25 ⟨r25, rfl, hE25, hr25⟩
      have hz25 := hE25.size
      replace hE := hE.trans hE25
      replace hA := hA.ext hE25
      replace hB := hB.ext hE25
      replace hx := hx.ext hE25
      replace hB3 := hB3.ext hE25
      replace hB4 := hB4.ext hE25
      refine WL_q rfl (ev_assign rfl) ?_
      refine WL_nil ?_
      refine thenE_n ?_
      refine W_seq ?_
      refine W_seq ?_
      refine W_region ?_
      refine WL_q rfl (ev_move rfl) ?_
      refine WL_q rfl (ev_lss rfl rfl) ?_
      refine WL_nil ?_
      refine thenE_n ?_
      refine W_cond rfl (fun hg27 => ?_) (fun hg27 => ?_)
      · have hp27 := of_decide_eq_true hg27
        refine W_seq ?_
        refine W_region ?_
        refine WL_q rfl (ev_assign rfl) ?_
        refine WL_nil ?_
        refine thenE_n ?_
        refine W_ret ?_
        refine thenE_r ?_
        refine ret1 rfl rfl ?_
        first | (exact ⟨rfl, hE⟩) | (exact absurd (hr48.det1 hr35) hp53) | (exact (bneE hg57 (hr48.det2 hr35)).elim) | (exact (decF hg72).elim) | (exact (tfF hg62).elim) | (exact (tfF hg67).elim)
      · have hp27 := of_decide_eq_false hg27
        refine W_skip ?_
        refine thenE_n ?_
        refine W_seq ?_
        refine W_drawE [(0, true), (2, true), (4, true), (1, false), (3, false), (5, false), (6, false), (7, true), (8, true), (9, true), (10, true), (11, true)] mixed (by kernel_rfl) rfl (by kernel_rfl) ?_
        intro wd10 hEd10 hzd10
        replace hE := hE.trans hEd10
        replace hA := hA.ext hEd10
        replace hB := hB.ext hEd10
        replace hx := hx.ext hEd10
        replace hB3 := hB3.ext hEd10
        replace hB4 := hB4.ext hEd10
        have hDd10 := Ext.refl wd10
        refine PW_q rfl rfl (fun wq hq => ev_loads st55 sz55 rfl (cellsB (hq.blk hB3)) rfl) ?_
        refine PW_q rfl rfl (fun wq hq => ev_loads st55 sz55 rfl (cellsB (hq.blk hB4)) rfl) ?_
        refine PW_q rfl rfl (fun wq hq => ev_move rfl) ?_
        refine PW_m rfl rfl (ev_call rfl (toNetwork_spec ha A _ hA (by omega) (by omega))) ?_
        rintro _ w30 ⟨h30, rfl, hF30, hE30⟩
        have hz30 := hE30.size
        replace hE := hE.trans hE30
        replace hDd10 := hDd10.trans hE30
        have hN30 := hF30.is
        refine ⟨hDd10, ?_⟩
        have hA_3 := hA.ext hDd10
        have hB_3 := hB.ext hDd10
        have hx_3 := hx.ext hDd10
        have hB3_3 := hB3.ext hDd10
        have hB4_3 := hB4.ext hDd10
        refine PW_m rfl rfl (ev_call rfl (toNetwork_spec hb B _ hB_3 (by omega) (by omega))) ?_
        rintro _ w32 ⟨h32, rfl, hF32, hE32⟩
        have hz32 := hE32.size
        replace hE := hE.trans hE32
        replace hDd10 := hDd10.trans hE32
        replace hN30 := hN30.ext hE32
        have hN32 := hF32.is
        refine ⟨hDd10, ?_⟩
        have hA_5 := hA.ext hDd10
        have hB_5 := hB.ext hDd10
        have hx_5 := hx.ext hDd10
        have hB3_5 := hB3.ext hDd10
        have hB4_5 := hB4.ext hDd10
        refine PW_m rfl rfl (ev_call rfl (toIntS_spec _ _ m _ hx_5 (by omega) (by omega))) ?_
        rintro _ w34 ⟨a34, rfl, hF34, hE34⟩
        have hz34 := hE34.size
        replace hE := hE.trans hE34
        replace hDd10 := hDd10.trans hE34
        replace hN30 := hN30.ext hE34
        replace hN32 := hN32.ext hE34
        have hx34 := hF34.is
        refine ⟨hDd10, ?_⟩
        have hA_6 := hA.ext hDd10
        have hB_6 := hB.ext hDd10
        have hx_6 := hx.ext hDd10
        have hB3_6 := hB3.ext hDd10
        have hB4_6 := hB4.ext hDd10
        refine PW_m rfl rfl (ev_call rfl (sSheetsOf_spec h30 h32 A B _ _ m _ hN30 hN32 hx34 (by omega) (by omega) (by omega) (by omega) (by omega) (by omega))) ?_
        rintro _ w35 ⟨r35, q35, rfl, hr35, hE35⟩
        have hz35 := hE35.size
        replace hE := hE.trans hE35
        replace hDd10 := hDd10.trans hE35
        replace hN30 := hN30.ext hE35
        replace hN32 := hN32.ext hE35
        replace hx34 := hx34.ext hE35
        refine ⟨hDd10, ?_⟩
        refine PW_q rfl rfl (fun wq hq => ev_move rfl) ?_
        refine PW_q rfl rfl (fun wq hq => ev_extract rfl rfl) ?_
        refine PW_q rfl rfl (fun wq hq => ev_extract rfl rfl) ?_
        refine PW_q rfl rfl (fun wq hq => ev_assign rfl) ?_
        refine PW_q rfl rfl (fun wq hq => ev_assign rfl) ?_
        replace hA := hA.ext hDd10
        replace hB := hB.ext hDd10
        replace hx := hx.ext hDd10
        replace hB3 := hB3.ext hDd10
        replace hB4 := hB4.ext hDd10
        refine PW_nil ?_
        refine thenE_n ?_
        refine W_seq ?_
        refine W_region ?_
        refine WL_q rfl (ev_loads st55 sz55 rfl (cellsB hB3) rfl) ?_
        refine WL_m rfl (ev_call rfl (toNetwork_spec ha A _ hA (by omega) (by omega))) ?_
        rintro _ w39 ⟨h39, rfl, hF39, hE39⟩
        have hz39 := hE39.size
        replace hE := hE.trans hE39
        replace hA := hA.ext hE39
        replace hB := hB.ext hE39
        replace hx := hx.ext hE39
        replace hB3 := hB3.ext hE39
        replace hB4 := hB4.ext hE39
        replace hN30 := hN30.ext hE39
        replace hN32 := hN32.ext hE39
        replace hx34 := hx34.ext hE39
        have hN39 := hF39.is
        refine WL_m rfl (ev_alloc zr60) ?_
        rintro _ w10 ⟨rfl, hN10⟩
        have hz10 := hN10.size
        replace hE := hE.trans hN10.ext
        replace hA := hA.ext hN10.ext
        replace hB := hB.ext hN10.ext
        replace hx := hx.ext hN10.ext
        replace hB3 := hB3.ext hN10.ext
        replace hB4 := hB4.ext hN10.ext
        replace hN30 := hN30.ext hN10.ext
        replace hN32 := hN32.ext hN10.ext
        replace hx34 := hx34.ext hN10.ext
        replace hN39 := hN39.ext hN10.ext
        have hB10 : Blk w10 _ _ [_, _, _] := hN10.blk
        refine WL_s (ev_stores sz60 rfl rfl rfl (by simp [Value.oneCell']) hB10 (by simp)) ?_
        rintro _ w11_3 hS11_3
        have hz11_3 := hS11_3.size
        replace hE := hE.sto hS11_3 (by omega)
        replace hA := hA.sto hS11_3 (by omega)
        replace hB := hB.sto hS11_3 (by omega)
        replace hx := hx.sto hS11_3 (by omega)
        replace hB3 := hB3.sto hS11_3 (by omega)
        replace hB4 := hB4.sto hS11_3 (by omega)
        replace hN30 := hN30.sto hS11_3 (by omega)
        replace hN32 := hN32.sto hS11_3 (by omega)
        replace hx34 := hx34.sto hS11_3 (by omega)
        replace hN39 := hN39.sto hS11_3 (by omega)
        replace hB10 : Blk w11_3 _ _ [_, _, _] := hS11_3.blk
        refine WL_nil ?_
        refine thenE_n ?_
        refine W_seq ?_
        refine W_region ?_
        refine WL_q rfl (ev_loads st55 sz55 rfl (cellsB hB4) rfl) ?_
        refine WL_m rfl (ev_call rfl (toNetwork_spec hb B _ hB (by omega) (by omega))) ?_
        rintro _ w41 ⟨h41, rfl, hF41, hE41⟩
        have hz41 := hE41.size
        replace hE := hE.trans hE41
        replace hA := hA.ext hE41
        replace hB := hB.ext hE41
        replace hx := hx.ext hE41
        replace hB3 := hB3.ext hE41
        replace hB4 := hB4.ext hE41
        replace hN30 := hN30.ext hE41
        replace hN32 := hN32.ext hE41
        replace hx34 := hx34.ext hE41
        replace hN39 := hN39.ext hE41
        replace hB10 := hB10.ext hE41
        have hN41 := hF41.is
        refine WL_m rfl (ev_alloc zr60) ?_
        rintro _ w11 ⟨rfl, hN11⟩
        have hz11 := hN11.size
        replace hE := hE.trans hN11.ext
        replace hA := hA.ext hN11.ext
        replace hB := hB.ext hN11.ext
        replace hx := hx.ext hN11.ext
        replace hB3 := hB3.ext hN11.ext
        replace hB4 := hB4.ext hN11.ext
        replace hN30 := hN30.ext hN11.ext
        replace hN32 := hN32.ext hN11.ext
        replace hx34 := hx34.ext hN11.ext
        replace hN39 := hN39.ext hN11.ext
        replace hB10 := hB10.ext hN11.ext
        replace hN41 := hN41.ext hN11.ext
        have hB11 : Blk w11 _ _ [_, _, _] := hN11.blk
        refine WL_s (ev_stores sz60 rfl rfl rfl (by simp [Value.oneCell']) hB11 (by simp)) ?_
        rintro _ w12_3 hS12_3
        have hz12_3 := hS12_3.size
        replace hE := hE.sto hS12_3 (by omega)
        replace hA := hA.sto hS12_3 (by omega)
        replace hB := hB.sto hS12_3 (by omega)
        replace hx := hx.sto hS12_3 (by omega)
        replace hB3 := hB3.sto hS12_3 (by omega)
        replace hB4 := hB4.sto hS12_3 (by omega)
        replace hN30 := hN30.sto hS12_3 (by omega)
        replace hN32 := hN32.sto hS12_3 (by omega)
        replace hx34 := hx34.sto hS12_3 (by omega)
        replace hN39 := hN39.sto hS12_3 (by omega)
        replace hB10 := hB10.sto hS12_3 (by omega)
        replace hN41 := hN41.sto hS12_3 (by omega)
        replace hB11 : Blk w12_3 _ _ [_, _, _] := hS12_3.blk
        refine WL_nil ?_
        refine thenE_n ?_
        refine W_seq ?_
        refine W_region ?_
        refine WL_q rfl (ev_move rfl) ?_
        refine WL_m rfl (ev_call rfl (toIntS_spec _ _ m _ hx (by omega) (by omega))) ?_
        rintro _ w43 ⟨a43, rfl, hF43, hE43⟩
        have hz43 := hE43.size
        replace hE := hE.trans hE43
        replace hA := hA.ext hE43
        replace hB := hB.ext hE43
        replace hx := hx.ext hE43
        replace hB3 := hB3.ext hE43
        replace hB4 := hB4.ext hE43
        replace hN30 := hN30.ext hE43
        replace hN32 := hN32.ext hE43
        replace hx34 := hx34.ext hE43
        replace hN39 := hN39.ext hE43
        replace hB10 := hB10.ext hE43
        replace hN41 := hN41.ext hE43
        replace hB11 := hB11.ext hE43
        have hx43 := hF43.is
        refine WL_q rfl (ev_assign rfl) ?_
        refine WL_nil ?_
        refine thenE_n ?_
        refine W_seq ?_
        refine W_region ?_
        refine WL_q rfl (ev_loads st60 sz60 rfl (cellsB hB10) rfl) ?_
        refine WL_q rfl (ev_loads st60 sz60 rfl (cellsB hB11) rfl) ?_
        refine WL_q rfl (ev_move rfl) ?_
        refine WL_m rfl (ev_call rfl (SheetsOf_spec h39 h41 A B _ _ m _ hN39 hN41 hx43 (by omega) (by omega) (by omega) (by omega) (by omega) (by omega))) ?_
        rintro _ w48 ⟨r48, q48, rfl, hr48, hE48⟩
        have hz48 := hE48.size
        replace hE := hE.trans hE48
        replace hA := hA.ext hE48
        replace hB := hB.ext hE48
        replace hx := hx.ext hE48
        replace hB3 := hB3.ext hE48
        replace hB4 := hB4.ext hE48
        replace hN30 := hN30.ext hE48
        replace hN32 := hN32.ext hE48
        replace hx34 := hx34.ext hE48
        replace hN39 := hN39.ext hE48
        replace hB10 := hB10.ext hE48
        replace hN41 := hN41.ext hE48
        replace hB11 := hB11.ext hE48
        replace hx43 := hx43.ext hE48
        refine WL_q rfl (ev_move rfl) ?_
        refine WL_q rfl (ev_extract rfl rfl) ?_
        refine WL_q rfl (ev_extract rfl rfl) ?_
        refine WL_q rfl (ev_assign rfl) ?_
        refine WL_q rfl (ev_assign rfl) ?_
        refine WL_nil ?_
        refine thenE_n ?_
        refine W_seq ?_
        refine W_seq ?_
        refine W_region ?_
        refine WL_q rfl (ev_move rfl) ?_
        refine WL_q rfl (ev_move rfl) ?_
        refine WL_q rfl (ev_neq rfl rfl) ?_
        refine WL_q rfl (ev_move rfl) ?_
        refine WL_splitv (t := 54) rfl (fun hg53 => ?_) (fun hg53 => ?_)
        · have hp53 := of_decide_eq_true hg53
          refine WL_no rfl rfl hg53 rfl ?_
          refine WL_no rfl rfl hg53 rfl ?_
          refine WL_no rfl rfl hg53 rfl ?_
          refine WL_q rfl (ev_pick_t rfl hg53 rfl) ?_
          refine WL_nil ?_
          refine thenE_n ?_
          refine W_cond_t rfl ?_
          refine W_seq ?_
          refine W_region ?_
          refine WL_q rfl (ev_assign rfl) ?_
          refine WL_nil ?_
          refine thenE_n ?_
          refine W_ret ?_
          refine thenE_r ?_
          refine ret1 rfl rfl ?_
          first | (exact ⟨rfl, hE⟩) | (exact absurd (hr48.det1 hr35) hp53) | (exact (bneE hg57 (hr48.det2 hr35)).elim) | (exact (decF hg72).elim) | (exact (tfF hg62).elim) | (exact (tfF hg67).elim)
        · have hp53 := of_decide_eq_false hg53
          refine WL_qg rfl rfl hg53 rfl (ev_move rfl) ?_
          refine WL_qg rfl rfl hg53 rfl (ev_move rfl) ?_
          refine WL_qg rfl rfl hg53 rfl (ev_neq_b Try.underlying4 rfl rfl) ?_
          refine WL_q rfl (ev_pick_f rfl hg53 rfl) ?_
          refine WL_nil ?_
          refine thenE_n ?_
          refine W_cond rfl (fun hg57 => ?_) (fun hg57 => ?_)
          · refine W_seq ?_
            refine W_region ?_
            refine WL_q rfl (ev_assign rfl) ?_
            refine WL_nil ?_
            refine thenE_n ?_
            refine W_ret ?_
            refine thenE_r ?_
            refine ret1 rfl rfl ?_
            first | (exact ⟨rfl, hE⟩) | (exact absurd (hr48.det1 hr35) hp53) | (exact (bneE hg57 (hr48.det2 hr35)).elim) | (exact (decF hg72).elim) | (exact (tfF hg62).elim) | (exact (tfF hg67).elim)
          · refine W_skip ?_
            refine thenE_n ?_
            refine W_seq ?_
            refine W_seq ?_
            refine W_drawE [(0, true), (1, true), (2, false), (3, false), (4, true)] mixed (by kernel_rfl) rfl (by kernel_rfl) ?_
            intro wd17 hEd17 hzd17
            replace hE := hE.trans hEd17
            replace hA := hA.ext hEd17
            replace hB := hB.ext hEd17
            replace hx := hx.ext hEd17
            replace hB3 := hB3.ext hEd17
            replace hB4 := hB4.ext hEd17
            replace hN30 := hN30.ext hEd17
            replace hN32 := hN32.ext hEd17
            replace hx34 := hx34.ext hEd17
            replace hN39 := hN39.ext hEd17
            replace hB10 := hB10.ext hEd17
            replace hN41 := hN41.ext hEd17
            replace hB11 := hB11.ext hEd17
            replace hx43 := hx43.ext hEd17
            have hDd17 := Ext.refl wd17
            refine PW_q rfl rfl (fun wq hq => ev_loads st60 sz60 rfl (cellsB (hq.blk hB10)) rfl) ?_
            refine PW_q rfl rfl (fun wq hq => ev_loads st55 sz55 rfl (cellsB (hq.blk hB3)) rfl) ?_
            refine PW_m rfl rfl (ev_call rfl (toNetwork_spec ha A _ hA (by omega) (by omega))) ?_
            rintro _ w61 ⟨h61, rfl, hF61, hE61⟩
            have hz61 := hE61.size
            replace hE := hE.trans hE61
            replace hDd17 := hDd17.trans hE61
            have hN61 := hF61.is
            refine ⟨hDd17, ?_⟩
            have hA_3 := hA.ext hDd17
            have hB_3 := hB.ext hDd17
            have hx_3 := hx.ext hDd17
            have hB3_3 := hB3.ext hDd17
            have hB4_3 := hB4.ext hDd17
            have hN30_3 := hN30.ext hDd17
            have hN32_3 := hN32.ext hDd17
            have hx34_3 := hx34.ext hDd17
            have hN39_3 := hN39.ext hDd17
            have hB10_3 := hB10.ext hDd17
            have hN41_3 := hN41.ext hDd17
            have hB11_3 := hB11.ext hDd17
            have hx43_3 := hx43.ext hDd17
            refine PW_m rfl rfl (ev_call rfl (eqNetwork_spec h39 h61 A _ hN39_3 hN61 (by omega))) ?_
            rintro _ w62 ⟨rfl, hE62⟩
            have hz62 := hE62.size
            replace hE := hE.trans hE62
            replace hDd17 := hDd17.trans hE62
            replace hN61 := hN61.ext hE62
            refine ⟨hDd17, ?_⟩
            refine PW_q rfl rfl (fun wq hq => ev_not rfl) ?_
            replace hA := hA.ext hDd17
            replace hB := hB.ext hDd17
            replace hx := hx.ext hDd17
            replace hB3 := hB3.ext hDd17
            replace hB4 := hB4.ext hDd17
            replace hN30 := hN30.ext hDd17
            replace hN32 := hN32.ext hDd17
            replace hx34 := hx34.ext hDd17
            replace hN39 := hN39.ext hDd17
            replace hB10 := hB10.ext hDd17
            replace hN41 := hN41.ext hDd17
            replace hB11 := hB11.ext hDd17
            replace hx43 := hx43.ext hDd17
            refine PW_nil ?_
            refine thenE_n ?_
            refine W_cond rfl (fun hg63 => ?_) (fun hg63 => ?_)
            · have hg62 := not_true hg63
              refine W_seq ?_
              refine W_region ?_
              refine WL_q rfl (ev_assign rfl) ?_
              refine WL_nil ?_
              refine thenE_n ?_
              refine W_ret ?_
              refine thenE_r ?_
              refine ret1 rfl rfl ?_
              first | (exact ⟨rfl, hE⟩) | (exact absurd (hr48.det1 hr35) hp53) | (exact (bneE hg57 (hr48.det2 hr35)).elim) | (exact (decF hg72).elim) | (exact (tfF hg62).elim) | (exact (tfF hg67).elim)
            · have hg62 := not_false hg63
              refine W_skip ?_
              refine thenE_n ?_
              refine W_seq ?_
              refine W_seq ?_
              refine W_drawE [(0, true), (1, true), (2, false), (3, false), (4, true)] mixed (by kernel_rfl) rfl (by kernel_rfl) ?_
              intro wd19 hEd19 hzd19
              replace hE := hE.trans hEd19
              replace hA := hA.ext hEd19
              replace hB := hB.ext hEd19
              replace hx := hx.ext hEd19
              replace hB3 := hB3.ext hEd19
              replace hB4 := hB4.ext hEd19
              replace hN30 := hN30.ext hEd19
              replace hN32 := hN32.ext hEd19
              replace hx34 := hx34.ext hEd19
              replace hN39 := hN39.ext hEd19
              replace hB10 := hB10.ext hEd19
              replace hN41 := hN41.ext hEd19
              replace hB11 := hB11.ext hEd19
              replace hx43 := hx43.ext hEd19
              replace hN61 := hN61.ext hEd19
              have hDd19 := Ext.refl wd19
              refine PW_q rfl rfl (fun wq hq => ev_loads st60 sz60 rfl (cellsB (hq.blk hB11)) rfl) ?_
              refine PW_q rfl rfl (fun wq hq => ev_loads st55 sz55 rfl (cellsB (hq.blk hB4)) rfl) ?_
              refine PW_m rfl rfl (ev_call rfl (toNetwork_spec hb B _ hB (by omega) (by omega))) ?_
              rintro _ w66 ⟨h66, rfl, hF66, hE66⟩
              have hz66 := hE66.size
              replace hE := hE.trans hE66
              replace hDd19 := hDd19.trans hE66
              have hN66 := hF66.is
              refine ⟨hDd19, ?_⟩
              have hA_3 := hA.ext hDd19
              have hB_3 := hB.ext hDd19
              have hx_3 := hx.ext hDd19
              have hB3_3 := hB3.ext hDd19
              have hB4_3 := hB4.ext hDd19
              have hN30_3 := hN30.ext hDd19
              have hN32_3 := hN32.ext hDd19
              have hx34_3 := hx34.ext hDd19
              have hN39_3 := hN39.ext hDd19
              have hB10_3 := hB10.ext hDd19
              have hN41_3 := hN41.ext hDd19
              have hB11_3 := hB11.ext hDd19
              have hx43_3 := hx43.ext hDd19
              have hN61_3 := hN61.ext hDd19
              refine PW_m rfl rfl (ev_call rfl (eqNetwork_spec h41 h66 B _ hN41_3 hN66 (by omega))) ?_
              rintro _ w67 ⟨rfl, hE67⟩
              have hz67 := hE67.size
              replace hE := hE.trans hE67
              replace hDd19 := hDd19.trans hE67
              replace hN66 := hN66.ext hE67
              refine ⟨hDd19, ?_⟩
              refine PW_q rfl rfl (fun wq hq => ev_not rfl) ?_
              replace hA := hA.ext hDd19
              replace hB := hB.ext hDd19
              replace hx := hx.ext hDd19
              replace hB3 := hB3.ext hDd19
              replace hB4 := hB4.ext hDd19
              replace hN30 := hN30.ext hDd19
              replace hN32 := hN32.ext hDd19
              replace hx34 := hx34.ext hDd19
              replace hN39 := hN39.ext hDd19
              replace hB10 := hB10.ext hDd19
              replace hN41 := hN41.ext hDd19
              replace hB11 := hB11.ext hDd19
              replace hx43 := hx43.ext hDd19
              replace hN61 := hN61.ext hDd19
              refine PW_nil ?_
              refine thenE_n ?_
              refine W_cond rfl (fun hg68 => ?_) (fun hg68 => ?_)
              · have hg67 := not_true hg68
                refine W_seq ?_
                refine W_region ?_
                refine WL_q rfl (ev_assign rfl) ?_
                refine WL_nil ?_
                refine thenE_n ?_
                refine W_ret ?_
                refine thenE_r ?_
                refine ret1 rfl rfl ?_
                first | (exact ⟨rfl, hE⟩) | (exact absurd (hr48.det1 hr35) hp53) | (exact (bneE hg57 (hr48.det2 hr35)).elim) | (exact (decF hg72).elim) | (exact (tfF hg62).elim) | (exact (tfF hg67).elim)
              · have hg67 := not_false hg68
                refine W_skip ?_
                refine thenE_n ?_
                refine W_seq ?_
                refine W_seq ?_
                refine W_region ?_
                refine WL_q rfl (ev_move rfl) ?_
                refine WL_q rfl (ev_move rfl) ?_
                refine WL_m rfl (ev_call rfl (toIntS_spec _ _ m _ hx (by omega) (by omega))) ?_
                rintro _ w71 ⟨a71, rfl, hF71, hE71⟩
                have hz71 := hE71.size
                replace hE := hE.trans hE71
                replace hA := hA.ext hE71
                replace hB := hB.ext hE71
                replace hx := hx.ext hE71
                replace hB3 := hB3.ext hE71
                replace hB4 := hB4.ext hE71
                replace hN30 := hN30.ext hE71
                replace hN32 := hN32.ext hE71
                replace hx34 := hx34.ext hE71
                replace hN39 := hN39.ext hE71
                replace hB10 := hB10.ext hE71
                replace hN41 := hN41.ext hE71
                replace hB11 := hB11.ext hE71
                replace hx43 := hx43.ext hE71
                replace hN61 := hN61.ext hE71
                replace hN66 := hN66.ext hE71
                have hx71 := hF71.is
                refine WL_m rfl (ev_call rfl (eqIntS_spec _ _ _ _ m m _ hx43 hx71 (by omega))) ?_
                rintro _ w72 ⟨rfl, hE72⟩
                have hz72 := hE72.size
                replace hE := hE.trans hE72
                replace hA := hA.ext hE72
                replace hB := hB.ext hE72
                replace hx := hx.ext hE72
                replace hB3 := hB3.ext hE72
                replace hB4 := hB4.ext hE72
                replace hN30 := hN30.ext hE72
                replace hN32 := hN32.ext hE72
                replace hx34 := hx34.ext hE72
                replace hN39 := hN39.ext hE72
                replace hB10 := hB10.ext hE72
                replace hN41 := hN41.ext hE72
                replace hB11 := hB11.ext hE72
                replace hx43 := hx43.ext hE72
                replace hN61 := hN61.ext hE72
                replace hN66 := hN66.ext hE72
                replace hF71 := hF71.ext hE72
                refine WL_q rfl (ev_not rfl) ?_
                refine WL_nil ?_
                refine thenE_n ?_
                refine W_cond rfl (fun hg73 => ?_) (fun hg73 => ?_)
                · have hg72 := not_true hg73
                  refine W_seq ?_
                  refine W_region ?_
                  refine WL_q rfl (ev_assign rfl) ?_
                  refine WL_nil ?_
                  refine thenE_n ?_
                  refine W_ret ?_
                  refine thenE_r ?_
                  refine ret1 rfl rfl ?_
                  first | (exact ⟨rfl, hE⟩) | (exact absurd (hr48.det1 hr35) hp53) | (exact (bneE hg57 (hr48.det2 hr35)).elim) | (exact (decF hg72).elim) | (exact (tfF hg62).elim) | (exact (tfF hg67).elim)
                · have hg72 := not_false hg73
                  refine W_skip ?_
                  refine thenE_n ?_
                  refine W_seq ?_
                  refine W_region ?_
                  refine WL_q rfl (ev_assign rfl) ?_
                  refine WL_nil ?_
                  refine thenE_n ?_
                  refine W_ret ?_
                  refine ret1 rfl rfl ?_
                  first | (exact ⟨rfl, hE⟩) | (exact absurd (hr48.det1 hr35) hp53) | (exact (bneE hg57 (hr48.det2 hr35)).elim) | (exact (decF hg72).elim) | (exact (tfF hg62).elim) | (exact (tfF hg67).elim)

end Go.Proofs.Ytjhgpcbbmhdojaa
