/- Marks on results of networks, exact. -/
import Derived.Test.YtladejfcplpnaaaMarkI
import Derived.Test.YtladejfcplpnaaaRowsP
import Derived.Test.YtladejfcplpnaaaBfs
import Derived.Test.YtladejfcplpnaaaMark2
namespace Go.Proofs.Ytladejfcplpnaaa
open Go Go.RowKit

def sumP (xss : List (List (Int × Int))) : Nat := (xss.map List.length).sum
theorem sumP_succ {xss : List (List (Int × Int))} {i : Nat} (h : i < xss.length) : sumP (xss.take (i + 1)) = sumP (xss.take i) + xss[i].length := by
  rw [← List.take_append_getElem h]; simp only [sumP, List.map_append, List.sum_append, List.map_cons, List.map_nil, List.sum_cons, List.sum_nil, Nat.add_zero]
theorem sumP_le {xss : List (List (Int × Int))} (i : Nat) : sumP (xss.take i) ≤ sumP xss := by
  have e : sumP (xss.take i ++ xss.drop i) = sumP (xss.take i) + sumP (xss.drop i) := by simp only [sumP, List.map_append, List.sum_append]
  rw [List.take_append_drop] at e
  omega
theorem sumP_row {xss : List (List (Int × Int))} {i : Nat} (h : i < xss.length) : xss[i].length ≤ sumP xss := by
  have h1 := sumP_succ h; have h2 := sumP_le (xss := xss) (i + 1); omega
/-- The marks that a row of pairs gets. -/
def numsP (k : Int) (n : Nat) : List (Int × Int) := (List.range n).map fun (i : Nat) => (k + 2 * (i : Int), k + 2 * (i : Int) + 1)
theorem numsP_len (k : Int) (n : Nat) : (numsP k n).length = n := by simp [numsP]
theorem numsP_get {k : Int} {n i : Nat} (h : i < (numsP k n).length) : (numsP k n)[i] = (k + 2 * (i : Int), k + 2 * (i : Int) + 1) := by simp [numsP]
theorem numsP_cells (k : Int) (n : Nat) : pairCells (numsP k n) = (nums k (2 * n)).map VI := by
  induction n with
  | zero => rfl
  | succ n ih =>
    have e1 : numsP k (n + 1) = numsP k n ++ [(k + 2 * (n : Int), k + 2 * (n : Int) + 1)] := by simp [numsP, List.range_succ]
    have e2 : nums k (2 * (n + 1)) = nums k (2 * n) ++ [k + 2 * (n : Int), k + 2 * (n : Int) + 1] := by
      have h1 : ∀ m : Nat, nums k (m + 1) = nums k m ++ [k + (m : Int)] := fun m => by simp [nums, List.range_succ]
      have h2 : k + ((2 * n : Nat) : Int) = k + 2 * (n : Int) := by omega
      have h3 : k + ((2 * n + 1 : Nat) : Int) = k + 2 * (n : Int) + 1 := by omega
      rw [show 2 * (n + 1) = (2 * n + 1) + 1 by omega, h1, h1, h2, h3, List.append_assoc]; rfl
    rw [e1, pairCells_append, ih, e2, List.map_append]; rfl
def numssP (k : Int) (xss : List (List (Int × Int))) : List (List (Int × Int)) := (List.range xss.length).map fun i => numsP (k + 2 * (sumP (xss.take i) : Int)) (xss.getD i []).length
theorem numssP_len (k : Int) (xss : List (List (Int × Int))) : (numssP k xss).length = xss.length := by simp [numssP]
theorem numssP_at {k : Int} {xss : List (List (Int × Int))} {i : Nat} (h : i < xss.length) {h2 : i < (numssP k xss).length} : (numssP k xss)[i] = numsP (k + 2 * (sumP (xss.take i) : Int)) xss[i].length := by simp only [numssP, List.getElem_map, List.getElem_range]; rw [getD_eq h]
theorem Own.blk2 {lo : Nat} {w : World} {E : TypeId} {a : Option Addr} {n c : Nat} {cs : List Value} (h : Own lo w E 2 a n c cs) (hn : 0 < n) : ∃ g rest, a = some ⟨g, 0, none⟩ ∧ lo ≤ g ∧ Blk w g E (cs ++ rest) ∧ n ≤ c ∧ c ≤ maxLen ∧ (cs ++ rest).length = c * 2 ∧ cs.length = n * 2 := by
  obtain ⟨hl, h⟩ := h
  rcases h with ⟨hv, h0⟩ | ⟨g, cap, cur, hv, hb, hg, h1, h2, h3, h4⟩
  · omega
  · cases hv
    have e : cs ++ cur.toList.drop (n * 2) = cur.toList := by rw [← h4]; exact List.take_append_drop _ _
    exact ⟨g, cur.toList.drop (n * 2), rfl, hb, by rw [e]; simpa [Blk] using hg, h1, h2, by rw [e]; simpa using h3, hl⟩
theorem Own.of_blk2 {lo : Nat} {w : World} {E : TypeId} {g n c : Nat} {cs rest : List Value} (hB : Blk w g E (cs ++ rest)) (h1 : lo ≤ g) (h2 : n ≤ c) (h3 : c ≤ maxLen) (h4 : (cs ++ rest).length = c * 2) (h5 : cs.length = n * 2) : Own lo w E 2 (some ⟨g, 0, none⟩) n c cs :=
  ⟨h5, .inr ⟨g, c, (cs ++ rest).toArray, rfl, h1, hB, h2, h3, by rw [List.size_toArray]; exact h4, by rw [← h5]; exact List.take_left⟩⟩
theorem markEndS_own {lo n c : Nat} {E : TypeId} {a : Option Addr} {k : Int} {w : World} {xs : List (Int × Int)} (hO : Own lo w E 2 a n c (pairCells xs)) (hk : 0 ≤ k ∧ k ≤ 1125899906842624) (hn : n ≤ 1048576) :
    Fn Try.prog 59 #[.slice a n c, VI k] w (fun v w' => v = VI (k + 2 * (n : Int)) ∧ Own lo w' E 2 a n c (pairCells (numsP k n)) ∧ Apd w w' a) := by
  rcases Nat.eq_zero_or_pos n with h0 | h0
  · subst h0
    refine (markEndS_nil a c k w).mono fun v w' hv => ⟨by rw [hv.1]; simp, ?_, hv.2.mono fun q hq => hq.1⟩
    have hl := hO.cap.2
    have e : pairCells xs = [] := List.eq_nil_of_length_eq_zero (by simpa using hl)
    have h1 := hO.ext hv.2
    rw [e] at h1
    exact h1
  · obtain ⟨g, rest, rfl, h1, hB, h2, h3, h4, h5⟩ := hO.blk2 h0
    refine (markEndS_blk g E _ n c k w hB (by rw [h4]; omega) hk hn).mono fun v w' hv => ⟨hv.1, ?_, hv.2.2.mono fun q hq => ⟨hq.1, hq.2 _ rfl⟩⟩
    have e : mix k (pairCells xs ++ rest) (2 * n) = pairCells (numsP k n) ++ rest := by
      unfold mix
      rw [List.drop_append_of_le_length (by omega), List.drop_of_length_le (by omega), List.nil_append, numsP_cells]
    have hB' := hv.2.1
    rw [e] at hB'
    have hl := congrArg List.length e
    rw [mix_len (by rw [h4]; omega)] at hl
    exact Own.of_blk2 hB' h1 h2 h3 (by omega) (by rw [pairCells_length, numsP_len])
/-- All blocks but the rows' are kept. -/
def RK (vs : List (Option Addr × Nat)) (w w' : World) : Prop := Keep (fun b => b < w.heap.size ∧ ∀ i (_h1 : i < vs.length) p, vs[i].1 = some p → b ≠ p.block) w w'
theorem RK.refl (vs : List (Option Addr × Nat)) (w : World) : RK vs w w := Keep.refl _ _
theorem RK.app {vs : List (Option Addr × Nat)} {w0 w w' : World} (h : RK vs w0 w) {i : Nat} (hi : i < vs.length) (k : Apd w w' vs[i].1) : RK vs w0 w' := Keep.trans h (k.mono fun b hb => ⟨Nat.lt_of_lt_of_le hb.1 h.size, fun q hq => hb.2 i hi q hq⟩)
theorem rowsp_cell {l r c i : Nat} {w : World} {E G : TypeId} {a : Option Addr} {vs : List (Option Addr × Nat)} {xss : List (List (Int × Int))} {rest : List Value} (h : RowsPAt l r w E G a c vs xss) (hv : i < vs.length) (hi : i < xss.length) : ((vs.zip xss).map (fun p => rowVal p.1 p.2) ++ rest)[i]? = some (.slice vs[i].1 xss[i].length vs[i].2) := by
  rw [List.getElem?_append_left (by simp; omega), List.getElem?_eq_getElem (by simp; omega)]
  simp [rowVal]

set_option maxRecDepth 100000 in
theorem markEndSS_rows {l r : Nat} (E G : TypeId) (a : Option Addr) (c : Nat) (vs : List (Option Addr × Nat)) (xss : List (List (Int × Int))) (k : Int) (w : World) (hR : RowsPAt l r w E G a c vs xss) (hr : r ≤ w.heap.size) (hk : 0 ≤ k ∧ k ≤ 281474976710656) (hs : sumP xss ≤ 1048576) (hn : xss.length ≤ 1048576) :
    Fn Try.prog 39 #[.slice a xss.length c, VI k] w (fun v w' => v = VI (k + 2 * (sumP xss : Int)) ∧ RowsPAt l r w' E G a c vs (numssP k xss) ∧ RK vs w w') := by
  have hnl := numssP_len k xss
  refine Fn_of Try.func39 rfl rfl (by kernel_rfl) rfl ?_
  refine W_seq ?_
  refine W_region ?_
  refine WL_q rfl (ev_assign rfl) ?_
  refine WL_nil ?_
  refine thenE_n ?_
  refine W_seq ?_
  refine W_seq ?_
  refine W_region ?_
  refine WL_q rfl (ev_assign rfl) ?_
  refine WL_nil ?_
  refine thenE_n ?_
  refine W_block ?_
  refine W_loopC (G := Nat) [(0, _)] ((Subs.c rfl Subs.n)) (fun i => [(1, VI (k + 2 * (sumP (xss.take i) : Int))), (5, VI (i : Int))]) (fun i w' => Rg l r 0 0 w w' ∧ i ≤ xss.length ∧ RowsPAt l r w' E G a c vs (mxl (numssP k xss) xss i) ∧ RK vs w w') (fun i => xss.length - i) 0 ((Subs.c (lkI rfl (by simp [sumP])) (Subs.c (lkI rfl (by omega)) Subs.n))) (⟨Rg.refl, ⟨Nat.zero_le _, hR, RK.refl _ _⟩⟩) ?_
  rintro i wL0 ⟨hRL0, hi', hA, hRK⟩
  have hzL0 := hRL0.size
  refine W_seq ?_
  refine W_seq ?_
  refine W_region ?_
  refine WL_q rfl (ev_move rfl) ?_
  refine WL_q rfl (ev_move rfl) ?_
  refine WL_q rfl (ev_len Try.underlying29 rfl) ?_
  refine WL_q rfl (ev_lss rfl rfl) ?_
  refine WL_nil ?_
  refine thenE_n ?_
  refine W_cond rfl (fun hg9 => ?_) (fun hg9 => ?_)
  · have hp9 := of_decide_eq_true hg9
    refine W_skip ?_
    refine thenE_n ?_
    refine W_seq ?_
    refine W_block ?_
    refine W_region ?_
    refine WL_q rfl (ev_move rfl) ?_
    refine WL_q rfl (ev_move rfl) ?_
    have hlt : i < xss.length := by omega
    have hml := mxl_len (i := i) hnl
    have hvl := hA.len
    have hv : i < vs.length := by omega
    have hx : i < (mxl (numssP k xss) xss i).length := by omega
    have hat := mxl_at (i := i) hnl hlt (h2 := hx)
    have hsl := sumP_le (xss := xss) i
    have hsr := sumP_row hlt
    have hs9 := sumP_succ hlt
    have hrl : ((mxl (numssP k xss) xss i)[i]).length = xss[i].length := by rw [hat]
    have hOr := hA.row i hv hx
    obtain ⟨g, rest, rfl, hg1, hB, hg2, hg3, hg4, hg5⟩ := hA.out.blk (by omega)
    refine WL_q rfl (ev_indexAddr Try.underlying29 sz56 rfl rfl rfl (by omega) (by omega)) ?_
    refine WL_q rfl (ev_load one56 rfl (hB.cellAt (rowsp_cell hA hv hx) (by simp))) ?_
    refine WL_q rfl (ev_move rfl) ?_
    refine WL_m rfl (ev_call rfl (markEndS_own hOr (by omega) (by omega))) ?_
    rintro _ w17 ⟨rfl, hO17, hK17⟩
    have hz17 := hK17.size
    replace hRL0 := hRL0.app hK17 (fun q hq => .inl ⟨((hA.row i hv hx).block q hq).1, hA.top i hv q hq, .inl (Nat.le_refl _)⟩)
    replace hOr := hO17
    have hA2 := hA.set hv hx (by rw [numsP_len]) hK17 hO17 (by omega)
    rw [hrl, ← numssP_at hlt (h2 := by omega), mxl_put hnl hlt] at hA2
    refine WL_q rfl (ev_assign rfl) ?_
    refine WL_nil ?_
    refine blockE_n ?_
    refine thenE_n ?_
    refine W_region ?_
    refine WL_q rfl (ev_move rfl) ?_
    refine WL_q rfl (ev_add rfl rfl (by omega)) ?_
    refine WL_q rfl (ev_assign rfl) ?_
    refine WL_nil ?_
    refine thenE_n ?_
    exact ⟨i + 1, (Subs.c rfl Subs.n), (Subs.c (lkI rfl (by omega)) (Subs.c (lkI rfl (by omega)) Subs.n)), ⟨hRL0, ⟨by omega, hA2, hRK.app hv hK17⟩⟩, by first | omega | (dsimp only; omega)⟩
  · have hp9 := of_decide_eq_false hg9
    refine W_exit ?_
    refine thenE_x ?_
    refine thenE_x ?_
    refine blockE_hit ?_
    refine thenE_n ?_
    refine W_seq ?_
    refine W_region ?_
    refine WL_q rfl (ev_move rfl) ?_
    refine WL_q rfl (ev_assign rfl) ?_
    refine WL_nil ?_
    refine thenE_n ?_
    refine W_ret ?_
    refine ret1 rfl rfl ?_
    have hi9 : i = xss.length := by omega
    subst hi9; refine ⟨by rw [List.take_length], ?_, hRK⟩; rw [mxl_all hnl] at hA; exact hA

set_option maxRecDepth 100000 in
theorem heldEndS_spec {lo hi n : Nat} (a : Option Addr) (c : Nat) (xs : List (Int × Int)) (k : Int) (w : World) (hx : Pairs lo hi w a c xs) (hl : xs = numsP k n) (hk : 0 ≤ k ∧ k ≤ 1125899906842624) (hn : n ≤ 1048576) :
    Fn Try.prog 60 #[.slice a n c, VI k] w (fun v w' => v = VI (k + 2 * (n : Int)) ∧ Ext w w') := by
  subst hl
  have hnl := numsP_len k n
  have hE := Ext.refl w
  refine Fn_of Try.func60 rfl rfl (by kernel_rfl) rfl ?_
  refine W_seq ?_
  refine W_region ?_
  refine WL_q rfl (ev_assign rfl) ?_
  refine WL_nil ?_
  refine thenE_n ?_
  refine W_seq ?_
  refine W_seq ?_
  refine W_region ?_
  refine WL_q rfl (ev_assign rfl) ?_
  refine WL_nil ?_
  refine thenE_n ?_
  refine W_block ?_
  refine W_loopC (G := Nat) [(0, _)] ((Subs.c rfl Subs.n)) (fun i => [(1, VI (k + 2 * (i : Int))), (5, VI (i : Int))]) (fun i w' => Ext w w' ∧ i ≤ n) (fun i => n - i) 0 ((Subs.c (lkI rfl (by omega)) (Subs.c (lkI rfl (by omega)) Subs.n))) (⟨Ext.refl _, Nat.zero_le _⟩) ?_
  rintro i wL0 ⟨hRL0, hi'⟩
  have hzL0 := hRL0.size
  replace hE := hE.trans hRL0
  replace hx := hx.ext hRL0
  refine W_seq ?_
  refine W_seq ?_
  refine W_region ?_
  refine WL_q rfl (ev_move rfl) ?_
  refine WL_q rfl (ev_move rfl) ?_
  refine WL_q rfl (ev_len Try.underlying56 rfl) ?_
  refine WL_q rfl (ev_lss rfl rfl) ?_
  refine WL_nil ?_
  refine thenE_n ?_
  refine W_cond rfl (fun hg9 => ?_) (fun hg9 => ?_)
  · have hp9 := of_decide_eq_true hg9
    refine W_skip ?_
    refine thenE_n ?_
    refine W_seq ?_
    refine W_block ?_
    refine W_seq ?_
    refine W_seq ?_
    refine W_region ?_
    refine WL_q rfl (ev_move rfl) ?_
    refine WL_q rfl (ev_move rfl) ?_
    have hlt : i < (numsP k n).length := by omega
    have he1 : (numsP k n)[i].1 = k + 2 * (i : Int) := by rw [numsP_get]
    have he2 : (numsP k n)[i].2 = k + 2 * (i : Int) + 1 := by rw [numsP_get]
    refine WL_q rfl (ev_indexAddr Try.underlying56 sz61 rfl rfl (hx.isSome (by omega)) (by omega) (by omega)) ?_
    refine WL_q rfl (ev_fieldAddr fo61_0 rfl) ?_
    refine WL_q rfl (ev_load one3 rfl (hx.fst (i := i) (by omega))) ?_
    refine WL_q rfl (ev_move rfl) ?_
    refine WL_q rfl (ev_neq rfl rfl) ?_
    refine WL_nil ?_
    refine thenE_n ?_
    refine W_cond rfl (fun hg18 => ?_) (fun hg18 => ?_)
    · have hp18 := of_decide_eq_true hg18
      refine W_seq ?_
      refine W_region ?_
      refine WL_q rfl (ev_assign rfl) ?_
      refine WL_nil ?_
      refine thenE_n ?_
      refine W_ret ?_
      refine thenE_r ?_
      refine blockE_r ?_
      refine thenE_r ?_
      refine thenE_r ?_
      refine blockE_r ?_
      refine thenE_r ?_
      refine ret1 rfl rfl ?_
      first | (exfalso; omega) | (exact ⟨vi (by omega), hE⟩)
    · have hp18 := of_decide_eq_false hg18
      refine W_skip ?_
      refine thenE_n ?_
      refine W_seq ?_
      refine W_region ?_
      refine WL_q rfl (ev_move rfl) ?_
      refine WL_q rfl (ev_add rfl rfl (by omega)) ?_
      refine WL_q rfl (ev_assign rfl) ?_
      refine WL_nil ?_
      refine thenE_n ?_
      refine W_seq ?_
      refine W_seq ?_
      refine W_region ?_
      refine WL_q rfl (ev_move rfl) ?_
      refine WL_q rfl (ev_move rfl) ?_
      refine WL_q rfl (ev_indexAddr Try.underlying56 sz61 rfl rfl (hx.isSome (by omega)) (by omega) (by omega)) ?_
      refine WL_q rfl (ev_fieldAddr fo61_1 rfl) ?_
      refine WL_q rfl (ev_load one3 rfl (hx.snd (i := i) (by omega))) ?_
      refine WL_q rfl (ev_move rfl) ?_
      refine WL_q rfl (ev_neq rfl rfl) ?_
      refine WL_nil ?_
      refine thenE_n ?_
      refine W_cond rfl (fun hg27 => ?_) (fun hg27 => ?_)
      · have hp27 := of_decide_eq_true hg27
        refine W_seq ?_
        refine W_region ?_
        refine WL_q rfl (ev_assign rfl) ?_
        refine WL_nil ?_
        refine thenE_n ?_
        refine W_ret ?_
        refine thenE_r ?_
        refine blockE_r ?_
        refine thenE_r ?_
        refine thenE_r ?_
        refine blockE_r ?_
        refine thenE_r ?_
        refine ret1 rfl rfl ?_
        first | (exfalso; omega) | (exact ⟨vi (by omega), hE⟩)
      · have hp27 := of_decide_eq_false hg27
        refine W_skip ?_
        refine thenE_n ?_
        refine W_region ?_
        refine WL_q rfl (ev_move rfl) ?_
        refine WL_q rfl (ev_add rfl rfl (by omega)) ?_
        refine WL_q rfl (ev_assign rfl) ?_
        refine WL_nil ?_
        refine blockE_n ?_
        refine thenE_n ?_
        refine W_region ?_
        refine WL_q rfl (ev_move rfl) ?_
        refine WL_q rfl (ev_add rfl rfl (by omega)) ?_
        refine WL_q rfl (ev_assign rfl) ?_
        refine WL_nil ?_
        refine thenE_n ?_
        exact ⟨i + 1, (Subs.c rfl Subs.n), (Subs.c (lkI rfl (by omega)) (Subs.c (lkI rfl (by omega)) Subs.n)), ⟨hRL0, by omega⟩, by first | omega | (dsimp only; omega)⟩
  · have hp9 := of_decide_eq_false hg9
    refine W_exit ?_
    refine thenE_x ?_
    refine thenE_x ?_
    refine blockE_hit ?_
    refine thenE_n ?_
    refine W_seq ?_
    refine W_region ?_
    refine WL_q rfl (ev_move rfl) ?_
    refine WL_q rfl (ev_assign rfl) ?_
    refine WL_nil ?_
    refine thenE_n ?_
    refine W_ret ?_
    refine ret1 rfl rfl ?_
    first | (exfalso; omega) | (exact ⟨vi (by omega), hE⟩)

theorem numssP_self {k : Int} {xss : List (List (Int × Int))} {i : Nat} (h : i < xss.length) {h2 : i < (numssP k xss).length} : (numssP k xss)[i] = numsP (k + 2 * (sumP (xss.take i) : Int)) ((numssP k xss)[i]).length := by rw [numssP_at h, numsP_len]

set_option maxRecDepth 100000 in
theorem heldEndSS_spec {lo hi n : Nat} (a : Option Addr) (c : Nat) (xss : List (List (Int × Int))) (k : Int) (w : World) (hx : Pairss lo hi w a c (numssP k xss)) (hl : n = xss.length) (hk : 0 ≤ k ∧ k ≤ 281474976710656) (hs : sumP xss ≤ 1048576) (hn : xss.length ≤ 1048576) :
    Fn Try.prog 40 #[.slice a n c, VI k] w (fun v w' => v = VI (k + 2 * (sumP xss : Int)) ∧ Ext w w') := by
  subst hl
  have hnl := numssP_len k xss
  have hE := Ext.refl w
  refine Fn_of Try.func40 rfl rfl (by kernel_rfl) rfl ?_
  refine W_seq ?_
  refine W_region ?_
  refine WL_q rfl (ev_assign rfl) ?_
  refine WL_nil ?_
  refine thenE_n ?_
  refine W_seq ?_
  refine W_seq ?_
  refine W_region ?_
  refine WL_q rfl (ev_assign rfl) ?_
  refine WL_nil ?_
  refine thenE_n ?_
  refine W_block ?_
  refine W_loopC (G := Nat) [(0, _)] ((Subs.c rfl Subs.n)) (fun i => [(1, VI (k + 2 * (sumP (xss.take i) : Int))), (5, VI (i : Int))]) (fun i w' => Ext w w' ∧ i ≤ xss.length) (fun i => xss.length - i) 0 ((Subs.c (lkI rfl (by simp [sumP])) (Subs.c (lkI rfl (by omega)) Subs.n))) (⟨Ext.refl _, Nat.zero_le _⟩) ?_
  rintro i wL0 ⟨hRL0, hi'⟩
  have hzL0 := hRL0.size
  replace hE := hE.trans hRL0
  replace hx := hx.ext hRL0
  refine W_seq ?_
  refine W_seq ?_
  refine W_region ?_
  refine WL_q rfl (ev_move rfl) ?_
  refine WL_q rfl (ev_move rfl) ?_
  refine WL_q rfl (ev_len Try.underlying29 rfl) ?_
  refine WL_q rfl (ev_lss rfl rfl) ?_
  refine WL_nil ?_
  refine thenE_n ?_
  refine W_cond rfl (fun hg9 => ?_) (fun hg9 => ?_)
  · have hp9 := of_decide_eq_true hg9
    refine W_skip ?_
    refine thenE_n ?_
    refine W_seq ?_
    refine W_block ?_
    refine W_seq ?_
    refine W_region ?_
    refine WL_q rfl (ev_move rfl) ?_
    refine WL_q rfl (ev_move rfl) ?_
    have hlt : i < xss.length := by omega
    have hx2 : i < (numssP k xss).length := by omega
    have hsl := sumP_le (xss := xss) i
    have hsr := sumP_row hlt
    have hs9 := sumP_succ hlt
    have hrl : ((numssP k xss)[i]).length = xss[i].length := by rw [numssP_at hlt, numsP_len]
    obtain ⟨a2, c2, hc2, hr2⟩ := hx.row (i := i) hx2
    refine WL_q rfl (ev_indexAddr Try.underlying29 sz56 rfl rfl (hx.isSome (by omega)) (by omega) (by omega)) ?_
    refine WL_q rfl (ev_load one56 rfl (hc2)) ?_
    refine WL_q rfl (ev_move rfl) ?_
    refine WL_m rfl (ev_call rfl (heldEndS_spec _ _ _ _ _ hr2 (numssP_self hlt) (by omega) (by omega))) ?_
    rintro _ w17 ⟨rfl, hE17⟩
    have hz17 := hE17.size
    replace hE := hE.trans hE17
    replace hRL0 := hRL0.trans hE17
    replace hx := hx.ext hE17
    refine WL_q rfl (ev_assign rfl) ?_
    refine WL_nil ?_
    refine thenE_n ?_
    refine W_seq ?_
    refine W_region ?_
    refine WL_q rfl (ev_move rfl) ?_
    refine WL_q rfl (ev_lss rfl rfl) ?_
    refine WL_nil ?_
    refine thenE_n ?_
    refine W_cond rfl (fun hg19 => ?_) (fun hg19 => ?_)
    · have hp19 := of_decide_eq_true hg19
      refine W_seq ?_
      refine W_region ?_
      refine WL_q rfl (ev_assign rfl) ?_
      refine WL_nil ?_
      refine thenE_n ?_
      refine W_ret ?_
      refine blockE_r ?_
      refine thenE_r ?_
      refine thenE_r ?_
      refine blockE_r ?_
      refine thenE_r ?_
      refine ret1 rfl rfl ?_
      first | (exfalso; omega) | (exact ⟨vi (by rw [List.take_of_length_le (show xss.length ≤ i by omega)]), hE⟩)
    · have hp19 := of_decide_eq_false hg19
      refine W_skip ?_
      refine blockE_n ?_
      refine thenE_n ?_
      refine W_region ?_
      refine WL_q rfl (ev_move rfl) ?_
      refine WL_q rfl (ev_add rfl rfl (by omega)) ?_
      refine WL_q rfl (ev_assign rfl) ?_
      refine WL_nil ?_
      refine thenE_n ?_
      exact ⟨i + 1, (Subs.c rfl Subs.n), (Subs.c (lkI rfl (by omega)) (Subs.c (lkI rfl (by omega)) Subs.n)), ⟨hRL0, by omega⟩, by first | omega | (dsimp only; omega)⟩
  · have hp9 := of_decide_eq_false hg9
    refine W_exit ?_
    refine thenE_x ?_
    refine thenE_x ?_
    refine blockE_hit ?_
    refine thenE_n ?_
    refine W_seq ?_
    refine W_region ?_
    refine WL_q rfl (ev_move rfl) ?_
    refine WL_q rfl (ev_assign rfl) ?_
    refine WL_nil ?_
    refine thenE_n ?_
    refine W_ret ?_
    refine ret1 rfl rfl ?_
    first | (exfalso; omega) | (exact ⟨vi (by rw [List.take_of_length_le (show xss.length ≤ i by omega)]), hE⟩)

/-- A network that a call has made: the slice of its rows, each row, its identifiers and its inputs are owned, in [l, r), no two of them in one block. -/
structure NAcc (l r : Nat) (w : World) (E F I : TypeId) (vs : List (Option Addr × Nat)) (h : NA) (A : Net) : Prop where
  rows : RowsPAt l r w E F h.a1 h.c1 vs A.ends
  ids : OwnH l r 0 0 w I 1 h.a2 A.ids.length h.c2 (A.ids.map VI)
  inp : OwnH l r 0 0 w I 1 h.a3 A.inputs.length h.c3 (A.inputs.map VI)
  s23 : ∀ p q, h.a2 = some p → h.a3 = some q → p.block ≠ q.block
  s12 : ∀ p q, h.a1 = some p → h.a2 = some q → p.block ≠ q.block
  s13 : ∀ p q, h.a1 = some p → h.a3 = some q → p.block ≠ q.block
  r2 : ∀ i (_h1 : i < vs.length) p q, vs[i].1 = some p → h.a2 = some q → p.block ≠ q.block
  r3 : ∀ i (_h1 : i < vs.length) p q, vs[i].1 = some p → h.a3 = some q → p.block ≠ q.block
def OwnNet (l r : Nat) (w : World) (E I : TypeId) (h : NA) (A : Net) : Prop := ∃ F vs, NAcc l r w E F I vs h A
theorem RowsPAt.up2 {l r r' : Nat} {w : World} {E F : TypeId} {a : Option Addr} {c : Nat} {vs : List (Option Addr × Nat)} {xss : List (List (Int × Int))} (h : RowsPAt l r w E F a c vs xss) (hr : r ≤ r') : RowsPAt l r' w E F a c vs xss := ⟨h.len, h.out, fun p hp => Nat.lt_of_lt_of_le (h.otop p hp) hr, h.row, fun i h1 p hp => Nat.lt_of_lt_of_le (h.top i h1 p hp) hr, h.sep, h.osep⟩
section
variable {l r : Nat} {w w' : World} {E F I : TypeId} {vs : List (Option Addr × Nat)} {h : NA} {A : Net}
theorem NAcc.keep {G : Nat → Prop} (x : NAcc l r w E F I vs h A) (k : Keep G w w') (hG : ∀ b, l ≤ b → b < r → G b) : NAcc l r w' E F I vs h A := ⟨x.rows.keep k hG, x.ids.keep k hG, x.inp.keep k hG, x.s23, x.s12, x.s13, x.r2, x.r3⟩
theorem NAcc.ext (x : NAcc l r w E F I vs h A) (k : Ext w w') : NAcc l r w' E F I vs h A := ⟨x.rows.ext k, x.ids.ext k, x.inp.ext k, x.s23, x.s12, x.s13, x.r2, x.r3⟩
theorem NAcc.up {r' : Nat} (x : NAcc l r w E F I vs h A) (hr : r ≤ r') : NAcc l r' w E F I vs h A := ⟨x.rows.up2 hr, x.ids.up (Nat.le_refl _) hr, x.inp.up (Nat.le_refl _) hr, x.s23, x.s12, x.s13, x.r2, x.r3⟩
theorem NAcc.low {l' : Nat} (x : NAcc l r w E F I vs h A) (hl : l' ≤ l) : NAcc l' r w E F I vs h A := ⟨x.rows.low hl, x.ids.up hl (Nat.le_refl _), x.inp.up hl (Nat.le_refl _), x.s23, x.s12, x.s13, x.r2, x.r3⟩
theorem NAcc.sto {g : Nat} {T : TypeId} {ds : List Value} (x : NAcc l r w E F I vs h A) (k : Sto w w' g T ds) (hb : g < l ∨ r ≤ g) : NAcc l r w' E F I vs h A := x.keep k.keep fun b h1 h2 => by show b ≠ g; omega
theorem NAcc.rg {lo hi p q : Nat} (x : NAcc l r w E F I vs h A) (k : Rg lo hi p q w w') (hb : (r ≤ lo ∨ hi ≤ l ∨ (p ≤ l ∧ r ≤ q)) ∧ r ≤ w.heap.size) : NAcc l r w' E F I vs h A := x.keep k fun b h1 h2 => ⟨by omega, by omega⟩
theorem NAcc.mrk {p q : Nat} (x : NAcc l r w E F I vs h A) (k : Mk p q w w') (hb : (q ≤ l ∨ r ≤ p) ∧ r ≤ w.heap.size) : NAcc l r w' E F I vs h A := x.keep k.keep fun b h1 h2 => ⟨by omega, by omega⟩
theorem NAcc.is (x : NAcc l r w E F I vs h A) : IsNet l r w h A := ⟨RowsP.is ⟨_, _, x.rows⟩, ownt_is x.ids, ownt_is x.inp⟩
theorem OwnNet.ext (x : OwnNet l r w E I h A) (k : Ext w w') : OwnNet l r w' E I h A := by obtain ⟨F, vs, x⟩ := x; exact ⟨F, vs, x.ext k⟩
theorem OwnNet.up {l' r' : Nat} (x : OwnNet l r w E I h A) (hl : l' ≤ l) (hr : r ≤ r') : OwnNet l' r' w E I h A := by obtain ⟨F, vs, x⟩ := x; exact ⟨F, vs, (x.low hl).up hr⟩
theorem OwnNet.sto {g : Nat} {T : TypeId} {ds : List Value} (x : OwnNet l r w E I h A) (k : Sto w w' g T ds) (hb : g < l ∨ r ≤ g) : OwnNet l r w' E I h A := by obtain ⟨F, vs, x⟩ := x; exact ⟨F, vs, x.sto k hb⟩
theorem OwnNet.rg {lo hi p q : Nat} (x : OwnNet l r w E I h A) (k : Rg lo hi p q w w') (hb : (r ≤ lo ∨ hi ≤ l ∨ (p ≤ l ∧ r ≤ q)) ∧ r ≤ w.heap.size) : OwnNet l r w' E I h A := by obtain ⟨F, vs, x⟩ := x; exact ⟨F, vs, x.rg k hb⟩
theorem OwnNet.mrk {p q : Nat} (x : OwnNet l r w E I h A) (k : Mk p q w w') (hb : (q ≤ l ∨ r ≤ p) ∧ r ≤ w.heap.size) : OwnNet l r w' E I h A := by obtain ⟨F, vs, x⟩ := x; exact ⟨F, vs, x.mrk k hb⟩
theorem OwnNet.is (x : OwnNet l r w E I h A) : IsNet l r w h A := by obtain ⟨F, vs, x⟩ := x; exact x.is
theorem NAcc.nil : NAcc l r w E F I [] ⟨none, 0, none, 0, none, 0⟩ ⟨[], [], []⟩ := ⟨⟨rfl, Own.nil _ _ _ _, (fun _ h => by cases h), (fun i h1 => by simp at h1), (fun i h1 => by simp at h1), (fun i j h1 => by simp at h1), (fun i h1 => by simp at h1)⟩, OwnH.nil, OwnH.nil, (fun _ _ h => by cases h), (fun _ _ h => by cases h), (fun _ _ h => by cases h), (fun i h1 => by simp at h1), (fun i h1 => by simp at h1)⟩
theorem OwnNet.nil : OwnNet l r w E I ⟨none, 0, none, 0, none, 0⟩ ⟨[], [], []⟩ := ⟨E, [], NAcc.nil⟩
/-- The rows are marked. -/
theorem NAcc.m1 (x : NAcc l r w E F I vs h A) {es : List (List (Int × Int))} (hR : RowsPAt l r w' E F h.a1 h.c1 vs es) (k : RK vs w w') : NAcc l r w' E F I vs h ⟨es, A.ids, A.inputs⟩ :=
  ⟨hR, ⟨x.ids.1.keep k fun q hq => ⟨(x.ids.1.block q hq).2, fun i h1 p hp => Ne.symm (x.r2 i h1 p q hp hq)⟩, x.ids.2⟩, ⟨x.inp.1.keep k fun q hq => ⟨(x.inp.1.block q hq).2, fun i h1 p hp => Ne.symm (x.r3 i h1 p q hp hq)⟩, x.inp.2⟩, x.s23, x.s12, x.s13, x.r2, x.r3⟩
theorem NAcc.rowsK (x : NAcc l r w E F I vs h A) {G : Nat → Prop} (k : Keep G w w') (ho : ∀ q, h.a1 = some q → G q.block) (hr : ∀ i (_h1 : i < vs.length) q, vs[i].1 = some q → G q.block) : RowsPAt l r w' E F h.a1 h.c1 vs A.ends :=
  ⟨x.rows.len, x.rows.out.keep k ho, x.rows.otop, fun i h1 h2 => (x.rows.row i h1 h2).keep k fun q hq => hr i h1 q hq, x.rows.top, x.rows.sep, x.rows.osep⟩
/-- The identifiers are marked. -/
theorem NAcc.m2 (x : NAcc l r w E F I vs h A) {ys : List Int} (hl : ys.length = A.ids.length) (k : Apd w w' h.a2) (o : Own l w' I 1 h.a2 A.ids.length h.c2 (ys.map VI)) : NAcc l r w' E F I vs h ⟨A.ends, ys, A.inputs⟩ :=
  ⟨x.rowsK k (fun q hq => ⟨(x.rows.out.block q hq).2, fun p hp => x.s12 q p hq hp⟩) (fun i h1 q hq => ⟨((x.rows.row i h1 (by rw [← x.rows.len]; exact h1)).block q hq).2, fun p hp => x.r2 i h1 q p hq hp⟩), ⟨by show Own _ _ _ _ _ ys.length _ _; rw [hl]; exact o, x.ids.2⟩,
   ⟨x.inp.1.keep k fun q hq => ⟨(x.inp.1.block q hq).2, fun p hp => Ne.symm (x.s23 p q hp hq)⟩, x.inp.2⟩, x.s23, x.s12, x.s13, x.r2, x.r3⟩
theorem NAcc.m3 (x : NAcc l r w E F I vs h A) {ys : List Int} (hl : ys.length = A.inputs.length) (k : Apd w w' h.a3) (o : Own l w' I 1 h.a3 A.inputs.length h.c3 (ys.map VI)) : NAcc l r w' E F I vs h ⟨A.ends, A.ids, ys⟩ :=
  ⟨x.rowsK k (fun q hq => ⟨(x.rows.out.block q hq).2, fun p hp => x.s13 q p hq hp⟩) (fun i h1 q hq => ⟨((x.rows.row i h1 (by rw [← x.rows.len]; exact h1)).block q hq).2, fun p hp => x.r3 i h1 q p hq hp⟩),
   ⟨x.ids.1.keep k fun q hq => ⟨(x.ids.1.block q hq).2, fun p hp => x.s23 q p hq hp⟩, x.ids.2⟩, ⟨by show Own _ _ _ _ _ ys.length _ _; rw [hl]; exact o, x.inp.2⟩, x.s23, x.s12, x.s13, x.r2, x.r3⟩
end
/-- What a network reads behind its marks. -/
def mkN1 (k : Int) (A : Net) : Net := ⟨numssP k A.ends, A.ids, A.inputs⟩
def mkN2 (k : Int) (A : Net) : Net := ⟨numssP k A.ends, nums (k + 2 * (sumP A.ends : Int)) A.ids.length, A.inputs⟩
def mkN (k : Int) (A : Net) : Net := ⟨numssP k A.ends, nums (k + 2 * (sumP A.ends : Int)) A.ids.length, nums (k + 2 * (sumP A.ends : Int) + (A.ids.length : Int)) A.inputs.length⟩
def mkT (k : Int) (A : Net) : Int := k + 2 * (sumP A.ends : Int) + (A.ids.length : Int) + (A.inputs.length : Int)
theorem sumP_totL (xss : List (List (Int × Int))) : totL xss = xss.length + sumP xss := rfl
theorem RK.rg {l r : Nat} {w w' : World} {E F : TypeId} {a : Option Addr} {c : Nat} {vs : List (Option Addr × Nat)} {xss : List (List (Int × Int))} (h : RK vs w w') (x : RowsPAt l r w E F a c vs xss) : Rg l r 0 0 w w' :=
  Keep.mono h fun b hb => ⟨hb.1, fun i h1 p hp => by have h2 : i < xss.length := (by rw [← x.len]; exact h1); have := ((x.row i h1 h2).block p hp).1; have := x.top i h1 p hp; have := hb.2; omega⟩
theorem mark1_net {l r : Nat} {w : World} {E I : TypeId} {h : NA} {A : Net} {k : Int} (x : OwnNet l r w E I h A) (hr : r ≤ w.heap.size) (hk : 0 ≤ k ∧ k ≤ 281474976710656) (hn : totN A ≤ 1048576) :
    Fn Try.prog 39 #[.slice h.a1 A.ends.length h.c1, VI k] w (fun v w' => v = VI (k + 2 * (sumP A.ends : Int)) ∧ OwnNet l r w' E I h (mkN1 k A) ∧ Rg l r 0 0 w w') := by
  obtain ⟨F, vs, x⟩ := x
  have h1 := sumP_totL A.ends
  unfold totN at hn
  exact (markEndSS_rows E F h.a1 h.c1 vs A.ends k w x.rows hr hk (by omega) (by omega)).mono fun v w' hv => ⟨hv.1, ⟨F, vs, x.m1 hv.2.1 hv.2.2⟩, hv.2.2.rg x.rows⟩
theorem mark2_net {l r : Nat} {w : World} {E I : TypeId} {h : NA} {A : Net} {k k2 : Int} (x : OwnNet l r w E I h (mkN1 k A)) (e : k2 = k + 2 * (sumP A.ends : Int)) (hk : 0 ≤ k2 ∧ k2 ≤ 562949953421312) (hn : totN A ≤ 1048576) :
    Fn Try.prog 21 #[.slice h.a2 A.ids.length h.c2, VI k2] w (fun v w' => v = VI (k2 + (A.ids.length : Int)) ∧ OwnNet l r w' E I h (mkN2 k A) ∧ Rg l r 0 0 w w') := by
  obtain ⟨F, vs, x⟩ := x
  subst e
  unfold totN at hn
  have hO : Own l w I 1 h.a2 A.ids.length h.c2 (A.ids.map VI) := x.ids.1
  exact (markIntS_own hO (by omega) (by omega)).mono fun v w' hv => ⟨hv.1, ⟨F, vs, x.m2 (by rw [nums_len]; rfl) hv.2.2 hv.2.1⟩, Rg.of_apd hv.2.2 fun q hq => ⟨(hO.block q hq).1, (x.ids.2 q hq).1, (x.ids.2 q hq).2⟩⟩
theorem mark3_net {l r : Nat} {w : World} {E I : TypeId} {h : NA} {A : Net} {k k2 : Int} (x : OwnNet l r w E I h (mkN2 k A)) (e : k2 = k + 2 * (sumP A.ends : Int) + (A.ids.length : Int)) (hk : 0 ≤ k2 ∧ k2 ≤ 1125899906842624) (hn : totN A ≤ 1048576) :
    Fn Try.prog 21 #[.slice h.a3 A.inputs.length h.c3, VI k2] w (fun v w' => v = VI (k2 + (A.inputs.length : Int)) ∧ OwnNet l r w' E I h (mkN k A) ∧ Rg l r 0 0 w w') := by
  obtain ⟨F, vs, x⟩ := x
  subst e
  unfold totN at hn
  have hO : Own l w I 1 h.a3 A.inputs.length h.c3 (A.inputs.map VI) := x.inp.1
  exact (markIntS_own hO (by omega) (by omega)).mono fun v w' hv => ⟨hv.1, ⟨F, vs, x.m3 (by rw [nums_len]; rfl) hv.2.2 hv.2.1⟩, Rg.of_apd hv.2.2 fun q hq => ⟨(hO.block q hq).1, (x.inp.2 q hq).1, (x.inp.2 q hq).2⟩⟩

set_option maxRecDepth 100000 in
theorem markNetwork_net {l r : Nat} {E I : TypeId} (h : NA) (A : Net) (k : Int) (w : World) (hO : OwnNet l r w E I h A) (hr : r ≤ w.heap.size) (hk : 0 ≤ k ∧ k ≤ 1048576) (hn : totN A ≤ 1048576) :
    Fn Try.prog 14 #[netV h A, VI k] w (fun v w' => v = VI (mkT k A) ∧ OwnNet l r w' E I h (mkN k A) ∧ Rg l r 0 0 w w') := by
  have hst := sumP_totL A.ends
  have hn9 := hn
  unfold totN at hn9
  have hG := (Rg.refl : Rg l r 0 0 w w)
  refine Fn_of Try.func14 rfl rfl (by kernel_rfl) rfl ?_
  refine W_seq ?_
  refine W_region ?_
  refine WL_m rfl (ev_box rfl) ?_
  rintro _ w2 ⟨rfl, hN2⟩
  have hz2 := hN2.size
  replace hG := hG.trans hN2.ext
  replace hO := hO.ext hN2.ext
  have hB2 : Blk w2 _ _ [_, _, _] := hN2.blk
  refine WL_q rfl (ev_assign rfl) ?_
  refine WL_nil ?_
  refine thenE_n ?_
  refine W_seq ?_
  refine W_region ?_
  refine WL_q rfl (ev_fieldAddr fo31_0 rfl) ?_
  refine WL_q rfl (ev_load one29 rfl (hB2.cell rfl)) ?_
  refine WL_q rfl (ev_move rfl) ?_
  refine WL_m rfl (ev_call rfl (mark1_net hO (by omega) (by omega) hn)) ?_
  rintro _ w8 ⟨rfl, hO8, hK8⟩
  have hz8 := hK8.size
  have hR8 := hK8
  replace hG := hG.rg hR8 (by omega)
  replace hB2 := hB2.rg hR8 (by omega)
  replace hO := hO8
  refine WL_q rfl (ev_assign rfl) ?_
  refine WL_nil ?_
  refine thenE_n ?_
  refine W_seq ?_
  refine W_region ?_
  refine WL_q rfl (ev_fieldAddr fo31_1 rfl) ?_
  refine WL_q rfl (ev_load one23 rfl (hB2.cell rfl)) ?_
  refine WL_q rfl (ev_move rfl) ?_
  refine WL_m rfl (ev_call rfl (mark2_net hO rfl (by omega) hn)) ?_
  rintro _ w12 ⟨rfl, hO12, hK12⟩
  have hz12 := hK12.size
  have hR12 := hK12
  replace hG := hG.rg hR12 (by omega)
  replace hB2 := hB2.rg hR12 (by omega)
  replace hO := hO12
  refine WL_q rfl (ev_assign rfl) ?_
  refine WL_nil ?_
  refine thenE_n ?_
  refine W_seq ?_
  refine W_region ?_
  refine WL_q rfl (ev_fieldAddr fo31_2 rfl) ?_
  refine WL_q rfl (ev_load one23 rfl (hB2.cell rfl)) ?_
  refine WL_q rfl (ev_move rfl) ?_
  refine WL_m rfl (ev_call rfl (mark3_net hO rfl (by omega) hn)) ?_
  rintro _ w16 ⟨rfl, hO16, hK16⟩
  have hz16 := hK16.size
  have hR16 := hK16
  replace hG := hG.rg hR16 (by omega)
  replace hB2 := hB2.rg hR16 (by omega)
  replace hO := hO16
  refine WL_q rfl (ev_assign rfl) ?_
  refine WL_nil ?_
  refine thenE_n ?_
  refine W_seq ?_
  refine W_region ?_
  refine WL_q rfl (ev_move rfl) ?_
  refine WL_q rfl (ev_assign rfl) ?_
  refine WL_nil ?_
  refine thenE_n ?_
  refine W_ret ?_
  refine ret1 rfl rfl ?_
  exact ⟨rfl, hO, hG⟩

set_option maxRecDepth 100000 in
theorem heldNetwork_net {lo hi : Nat} (h : NA) (A : Net) (k : Int) (w : World) (hN : IsNet lo hi w h (mkN k A)) (hk : 0 ≤ k ∧ k ≤ 1048576) (hn : totN A ≤ 1048576) :
    Fn Try.prog 16 #[netV h A, VI k] w (fun v w' => v = VI (mkT k A) ∧ Ext w w') := by
  have hst := sumP_totL A.ends
  have hn9 := hn
  unfold totN at hn9
  have hE := Ext.refl w
  refine Fn_of Try.func16 rfl rfl (by kernel_rfl) rfl ?_
  refine W_seq ?_
  refine W_region ?_
  refine WL_m rfl (ev_box rfl) ?_
  rintro _ w2 ⟨rfl, hN2⟩
  have hz2 := hN2.size
  replace hE := hE.trans hN2.ext
  replace hN := hN.ext hN2.ext
  have hB2 : Blk w2 _ _ [_, _, _] := hN2.blk
  refine WL_q rfl (ev_assign rfl) ?_
  refine WL_nil ?_
  refine thenE_n ?_
  refine W_seq ?_
  refine W_region ?_
  refine WL_q rfl (ev_fieldAddr fo31_0 rfl) ?_
  refine WL_q rfl (ev_load one29 rfl (hB2.cell rfl)) ?_
  refine WL_q rfl (ev_move rfl) ?_
  refine WL_m rfl (ev_call rfl (heldEndSS_spec _ _ A.ends _ _ hN.ends rfl (by omega) (by omega) (by omega))) ?_
  rintro _ w8 ⟨rfl, hE8⟩
  have hz8 := hE8.size
  replace hE := hE.trans hE8
  replace hN := hN.ext hE8
  replace hB2 := hB2.ext hE8
  refine WL_q rfl (ev_assign rfl) ?_
  refine WL_nil ?_
  refine thenE_n ?_
  refine W_seq ?_
  refine W_seq ?_
  refine W_region ?_
  refine WL_q rfl (ev_move rfl) ?_
  refine WL_q rfl (ev_lss rfl rfl) ?_
  refine WL_nil ?_
  refine thenE_n ?_
  refine W_cond rfl (fun hg10 => ?_) (fun hg10 => ?_)
  · have hp10 := of_decide_eq_true hg10
    refine W_seq ?_
    refine W_region ?_
    refine WL_q rfl (ev_assign rfl) ?_
    refine WL_nil ?_
    refine thenE_n ?_
    refine W_ret ?_
    refine thenE_r ?_
    refine ret1 rfl rfl ?_
    first | (exfalso; omega) | (exact ⟨rfl, hE⟩)
  · have hp10 := of_decide_eq_false hg10
    refine W_skip ?_
    refine thenE_n ?_
    refine W_seq ?_
    refine W_region ?_
    refine WL_q rfl (ev_fieldAddr fo31_1 rfl) ?_
    refine WL_q rfl (ev_load one23 rfl (hB2.cell rfl)) ?_
    refine WL_q rfl (ev_move rfl) ?_
    refine WL_m rfl (ev_call rfl (heldIntS_spec _ _ _ _ _ hN.ids rfl (by omega) (by omega))) ?_
    rintro _ w14 ⟨rfl, hE14⟩
    have hz14 := hE14.size
    replace hE := hE.trans hE14
    replace hN := hN.ext hE14
    replace hB2 := hB2.ext hE14
    refine WL_q rfl (ev_assign rfl) ?_
    refine WL_nil ?_
    refine thenE_n ?_
    refine W_seq ?_
    refine W_seq ?_
    refine W_region ?_
    refine WL_q rfl (ev_move rfl) ?_
    refine WL_q rfl (ev_lss rfl rfl) ?_
    refine WL_nil ?_
    refine thenE_n ?_
    refine W_cond rfl (fun hg16 => ?_) (fun hg16 => ?_)
    · have hp16 := of_decide_eq_true hg16
      refine W_seq ?_
      refine W_region ?_
      refine WL_q rfl (ev_assign rfl) ?_
      refine WL_nil ?_
      refine thenE_n ?_
      refine W_ret ?_
      refine thenE_r ?_
      refine ret1 rfl rfl ?_
      first | (exfalso; omega) | (exact ⟨rfl, hE⟩)
    · have hp16 := of_decide_eq_false hg16
      refine W_skip ?_
      refine thenE_n ?_
      refine W_seq ?_
      refine W_region ?_
      refine WL_q rfl (ev_fieldAddr fo31_2 rfl) ?_
      refine WL_q rfl (ev_load one23 rfl (hB2.cell rfl)) ?_
      refine WL_q rfl (ev_move rfl) ?_
      refine WL_m rfl (ev_call rfl (heldIntS_spec _ _ _ _ _ hN.inputs rfl (by omega) (by omega))) ?_
      rintro _ w20 ⟨rfl, hE20⟩
      have hz20 := hE20.size
      replace hE := hE.trans hE20
      replace hN := hN.ext hE20
      replace hB2 := hB2.ext hE20
      refine WL_q rfl (ev_assign rfl) ?_
      refine WL_nil ?_
      refine thenE_n ?_
      refine W_seq ?_
      refine W_seq ?_
      refine W_region ?_
      refine WL_q rfl (ev_move rfl) ?_
      refine WL_q rfl (ev_lss rfl rfl) ?_
      refine WL_nil ?_
      refine thenE_n ?_
      refine W_cond rfl (fun hg22 => ?_) (fun hg22 => ?_)
      · have hp22 := of_decide_eq_true hg22
        refine W_seq ?_
        refine W_region ?_
        refine WL_q rfl (ev_assign rfl) ?_
        refine WL_nil ?_
        refine thenE_n ?_
        refine W_ret ?_
        refine thenE_r ?_
        refine ret1 rfl rfl ?_
        first | (exfalso; omega) | (exact ⟨rfl, hE⟩)
      · have hp22 := of_decide_eq_false hg22
        refine W_skip ?_
        refine thenE_n ?_
        refine W_seq ?_
        refine W_region ?_
        refine WL_q rfl (ev_move rfl) ?_
        refine WL_q rfl (ev_assign rfl) ?_
        refine WL_nil ?_
        refine thenE_n ?_
        refine W_ret ?_
        refine ret1 rfl rfl ?_
        first | (exfalso; omega) | (exact ⟨rfl, hE⟩)

end Go.Proofs.Ytladejfcplpnaaa
