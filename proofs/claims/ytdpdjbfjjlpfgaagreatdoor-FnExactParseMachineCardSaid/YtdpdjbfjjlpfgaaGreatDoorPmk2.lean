/- Marks on clauses and on a machine that a call owns, exact. -/
import Derived.Test.YtdpdjbfjjlpfgaaGreatDoorPmk
namespace Go.Proofs.YtdpdjbfjjlpfgaaGreatDoor
open Go Go.RowKit

def sumC (cs : List Cl) : Nat := (cs.map fun c => c.2.1.length + 2).sum
theorem sumC_succ {cs : List Cl} {i : Nat} (h : i < cs.length) : sumC (cs.take (i + 1)) = sumC (cs.take i) + (cs[i].2.1.length + 2) := by
  rw [List.take_succ_eq_append_getElem h]; simp only [sumC, List.map_append, List.sum_append, List.map_cons, List.map_nil, List.sum_cons, List.sum_nil, Nat.add_zero]
theorem sumC_le {cs : List Cl} (i : Nat) : sumC (cs.take i) ≤ sumC cs := by
  have e : sumC (cs.take i ++ cs.drop i) = sumC (cs.take i) + sumC (cs.drop i) := by simp only [sumC, List.map_append, List.sum_append]
  rw [List.take_append_drop] at e
  omega
theorem sumC_tot (cs : List Cl) : sumC cs ≤ 2 * totC cs := by
  induction cs with
  | nil => exact Nat.le_refl _
  | cons x r ih => simp only [sumC, totC, List.map_cons, List.sum_cons, List.length_cons] at ih ⊢; omega
/-- The marks that clauses get. -/
def mkCl (k : Int) (cs : List Cl) : List Cl := (List.range cs.length).map fun i => (k + (sumC (cs.take i) : Int), nums (k + (sumC (cs.take i) : Int) + 1) (cs.getD i (0, [], 0)).2.1.length, k + (sumC (cs.take i) : Int) + 1 + ((cs.getD i (0, [], 0)).2.1.length : Int))
theorem mkCl_len (k : Int) (cs : List Cl) : (mkCl k cs).length = cs.length := by simp [mkCl]
theorem mkCl_at {k : Int} {cs : List Cl} {i : Nat} (h : i < cs.length) {h2 : i < (mkCl k cs).length} : (mkCl k cs)[i] = (k + (sumC (cs.take i) : Int), nums (k + (sumC (cs.take i) : Int) + 1) cs[i].2.1.length, k + (sumC (cs.take i) : Int) + 1 + (cs[i].2.1.length : Int)) := by
  simp only [mkCl, List.getElem_map, List.getElem_range]; rw [getD_eq h]
section
variable {l r g c : Nat} {w w' : World} {A D : List Part} {vs : List (Option Addr × Nat)} {i : Nat}
/-- A machine's clauses: their slice, and behind other parts their inboxes. -/
def HC (l r : Nat) (w : World) (A D : List Part) (a : Option Addr) (c : Nat) (vs : List (Option Addr × Nat)) (zs : List Cl) : Prop := Hold l r w (A ++ ([pOwn 40 3 a zs.length c (V3 vs zs)] ++ (D ++ clsP pIntO vs zs)))
theorem HC.own {a : Option Addr} {zs : List Cl} (h : HC l r w A D a c vs zs) : OwnH l r 0 0 w 40 3 a zs.length c (V3 vs zs) := part_own (Hold.at (L := [_]) (i := 0) h (Nat.zero_lt_one))
theorem HC.inb {a : Option Addr} {zs : List Cl} (h : HC l r w A D a c vs zs) (hv : i < vs.length) (hz : i < zs.length) : OwnH l r 0 0 w 3 1 vs[i].1 zs[i].2.1.length vs[i].2 (zs[i].2.1.map VI) := by
  have h1 : Hold l r w ((A ++ ([pOwn 40 3 a zs.length c (V3 vs zs)] ++ D)) ++ (clsP pIntO vs zs ++ [])) := by simpa [HC] using h
  exact h1.inb hv hz
theorem HC.head {a : Option Addr} {zs : List Cl} (h : HC l r w A D a c vs zs) {ys : List Cl} {lo : Nat} (hl : ys.length = zs.length) (hc : clsP pIntO vs ys = clsP pIntO vs zs) (k : Apd w w' a) (o : Own lo w' 40 3 a zs.length c (V3 vs ys)) : HC l r w' A D a c vs ys := by
  unfold HC
  rw [hc, hl]
  exact Hold.setIn (L := [_]) (i := 0) h Nat.zero_lt_one (k.mono fun x hx => ⟨hx.1, fun q hq => hx.2 q.block (pOwn.b hq)⟩) (q := pOwn 40 3 a zs.length c (V3 vs ys)) (o.mono (Nat.zero_le _)) rfl
theorem HC.setInb {a : Option Addr} {zs : List Cl} (h : HC l r w A D a c vs zs) (hv : i < vs.length) (hz : i < zs.length) {y : Cl} {lo : Nat} (h1 : y.1 = zs[i].1) (h3 : y.2.2 = zs[i].2.2) (hl : y.2.1.length = zs[i].2.1.length) (k : Apd w w' vs[i].1) (o : Own lo w' 3 1 vs[i].1 zs[i].2.1.length vs[i].2 (y.2.1.map VI)) : HC l r w' A D a c vs (zs.set i y) := by
  have h4 : Hold l r w ((A ++ ([pOwn 40 3 a zs.length c (V3 vs zs)] ++ D)) ++ (clsP pIntO vs zs ++ [])) := by simpa [HC] using h
  have h5 := h4.inbSet hv hz hl k o
  unfold HC
  rw [V3_eq hv hz h1 hl h3, List.length_set]
  simpa using h5
theorem clsP_same {zs : List Cl} {y : Cl} (hz : i < zs.length) (hv : i < vs.length) (h : y.2.1 = zs[i].2.1) : clsP pIntO vs (zs.set i y) = clsP pIntO vs zs := by
  unfold clsP
  rw [zm_set hv]
  refine List.ext_getElem (by simp) fun j k1 k2 => ?_
  rw [List.getElem_set]
  split
  · rename_i e; subst e; simp [h]
  · rfl
/-- A clause's state was written. -/
theorem HC.put0 {zs : List Cl} {rest : List Value} {x : Int} {j : Nat} (h : HC l r w A D (some ⟨g, 0, none⟩) c vs zs) (hv : i < vs.length) (hz : i < zs.length) (hg : l ≤ g) (hc : zs.length ≤ c) (hm : c ≤ maxLen) (hl : (V3 vs zs ++ rest).length = c * 3) (hl2 : (V3 vs zs).length = zs.length * 3) (hj : j = i * 3) (hS : Sto w w' g 40 ((V3 vs zs ++ rest).set j (VI x))) :
    HC l r w' A D (some ⟨g, 0, none⟩) c vs (zs.set i (x, zs[i].2)) ∧ Blk w' g 40 (V3 vs (zs.set i (x, zs[i].2)) ++ rest) := by
  subst hj
  have hB := hS.blk
  rw [List.set_append_left _ _ (by omega), V3_set0 hv hz] at hB
  have e : (V3 vs (zs.set i (x, zs[i].2))).length = (V3 vs zs).length := by rw [← V3_set0 hv hz, List.length_set]
  refine ⟨h.head (by simp) (clsP_same hz hv rfl) (hS.keep.mono fun y hy => hy.2 _ rfl) (own_of_blkG hB hg hc hm (by rw [List.length_append, e, ← List.length_append]; exact hl) (by rw [e]; exact hl2)), hB⟩
/-- A clause's next was written. -/
theorem HC.put2 {zs : List Cl} {rest : List Value} {x : Int} {j : Nat} (h : HC l r w A D (some ⟨g, 0, none⟩) c vs zs) (hv : i < vs.length) (hz : i < zs.length) (hg : l ≤ g) (hc : zs.length ≤ c) (hm : c ≤ maxLen) (hl : (V3 vs zs ++ rest).length = c * 3) (hl2 : (V3 vs zs).length = zs.length * 3) (hj : j = i * 3 + 2) (hS : Sto w w' g 40 ((V3 vs zs ++ rest).set j (VI x))) :
    HC l r w' A D (some ⟨g, 0, none⟩) c vs (zs.set i (zs[i].1, zs[i].2.1, x)) := by
  subst hj
  have hB := hS.blk
  rw [List.set_append_left _ _ (by omega), V3_set2 hv hz] at hB
  have e : (V3 vs (zs.set i (zs[i].1, zs[i].2.1, x))).length = (V3 vs zs).length := by rw [← V3_set2 hv hz, List.length_set]
  exact h.head (by simp) (clsP_same hz hv rfl) (hS.keep.mono fun y hy => hy.2 _ rfl) (own_of_blkG hB hg hc hm (by rw [List.length_append, e, ← List.length_append]; exact hl) (by rw [e]; exact hl2))
theorem V3_cell1 {zs : List Cl} {rest : List Value} (hv : i < vs.length) (hz : i < zs.length) : (V3 vs zs ++ rest)[i * 3 + 1]? = some (.slice vs[i].1 zs[i].2.1.length vs[i].2) := by
  have h := V3_get1 hv hz
  rw [List.getElem?_append_left (by rcases Nat.lt_or_ge (i * 3 + 1) (V3 vs zs).length with h1 | h1; exact h1; rw [List.getElem?_eq_none h1] at h; cases h)]
  exact h
end

set_option maxRecDepth 100000 in
theorem markClauseS_h {l r : Nat} (A D : List Part) (vs : List (Option Addr × Nat)) (a : Option Addr) (c : Nat) (cs : List Cl) (k : Int) (w : World) (hH : HC l r w A D a c vs cs) (hvl : vs.length = cs.length) (hk : 0 ≤ k ∧ k ≤ 562949953421312) (ht : totC cs ≤ 1048576) :
    Fn Tryz.prog 23 #[.slice a cs.length c, VI k] w (fun o9 w' => o9 = VI (k + (sumC cs : Int)) ∧ HC l r w' A D a c vs (mkCl k cs) ∧ Rg l r 0 0 w w') := by
  have hnl := mkCl_len k cs
  have hn := totC_len cs
  have hs := sumC_tot cs
  refine Fn_of Tryz.func23 rfl rfl (by kernel_rfl) rfl ?_
  refine W_seq ?_
  refine W_region ?_
  refine WL_q rfl (ev_assign rfl) ?_
  refine WL_nil ?_
  refine thenE_n ?_
  refine W_seq ?_
  refine W_seq ?_
  refine W_region ?_
  refine WL_q rfl (ev_assign rfl) ?_
  refine WL_nil ?_
  refine thenE_n ?_
  refine W_block ?_
  refine W_loopC (G := Nat) [(0, _)] ((Subs.c rfl Subs.n)) (fun i => [(1, VI (k + (sumC (cs.take i) : Int))), (5, VI (i : Int))]) (fun i w' => Rg l r 0 0 w w' ∧ i ≤ cs.length ∧ HC l r w' A D a c vs (mxl (mkCl k cs) cs i)) (fun i => cs.length - i) 0 ((Subs.c (lkI rfl (by simp [sumC])) (Subs.c (lkI rfl (by omega)) Subs.n))) (⟨Rg.refl, ⟨by omega, hH⟩⟩) ?_
  rintro i wL0 ⟨hRL0, hi', hHi⟩
  have hzL0 := hRL0.size
  refine W_seq ?_
  refine W_seq ?_
  refine W_region ?_
  refine WL_q rfl (ev_move rfl) ?_
  refine WL_q rfl (ev_move rfl) ?_
  refine WL_q rfl (ev_len Tryz.underlying23 rfl) ?_
  refine WL_q rfl (ev_lss rfl rfl) ?_
  refine WL_nil ?_
  refine thenE_n ?_
  refine W_cond rfl (fun hg9 => ?_) (fun hg9 => ?_)
  · have hp9 := of_decide_eq_true hg9
    refine W_skip ?_
    refine thenE_n ?_
    refine W_seq ?_
    refine W_block ?_
    refine W_seq ?_
    refine W_region ?_
    refine WL_q rfl (ev_move rfl) ?_
    refine WL_q rfl (ev_move rfl) ?_
    refine WL_q rfl (ev_move rfl) ?_
    have hlt : i < cs.length := by omega
    have hml := mxl_len (i := i) hnl
    have hv : i < vs.length := by omega
    obtain ⟨zs, hzs⟩ : ∃ zs, zs = (mxl (mkCl k cs) cs i) := ⟨_, rfl⟩
    rw [← hzs] at hHi hml
    have hx : i < zs.length := by omega
    have hat : zs[i] = cs[i] := by subst hzs; exact mxl_at (i := i) hnl hlt
    have hs9 := sumC_succ hlt
    have hsi := totC_le hlt
    have hsl := sumC_le (cs := cs) (i + 1)
    have hHd := hHi.own
    obtain ⟨g, rest, rfl, hg1, hB, hg2, hg3, hg4, hg5⟩ := own_blkG hHd.1 (by omega)
    have hgr : g < r := (hHd.2 _ rfl).1
    refine WL_q rfl (ev_indexAddr Tryz.underlying23 sz40 rfl rfl rfl (by omega) (by omega)) ?_
    refine WL_q rfl (ev_fieldAddr fo40_0 rfl) ?_
    refine WL_s (ev_store sz3 rfl rfl rfl hB (by rw [List.length_append, hg5]; simp; omega)) ?_
    rintro _ w4_5 hS4_5
    have hz4_5 := hS4_5.size
    replace hRL0 := hRL0.sto hS4_5 (by omega)
    replace hB := hS4_5.blk
    obtain ⟨hH2, hB2⟩ := hHi.put0 (j := 0 + ((i : Nat) : Int).toNat * 3 + 0) hv hx hg1 hg2 hg3 hg4 hg5 (by simp) hS4_5
    obtain ⟨z2, hz2⟩ : ∃ z2, z2 = zs.set i (k + (sumC (cs.take i) : Int), zs[i].2) := ⟨_, rfl⟩
    rw [← hz2] at hH2 hB2
    have hl2 : z2.length = cs.length := by rw [hz2, List.length_set, hml]
    have hx2 : i < z2.length := by omega
    have hat2 : z2[i] = (k + (sumC (cs.take i) : Int), cs[i].2) := by subst hz2; rw [List.getElem_set_self, hat]
    refine WL_nil ?_
    refine thenE_n ?_
    refine W_seq ?_
    refine W_region ?_
    refine WL_q rfl (ev_move rfl) ?_
    refine WL_q rfl (ev_add rfl rfl (by omega)) ?_
    refine WL_q rfl (ev_assign rfl) ?_
    refine WL_nil ?_
    refine thenE_n ?_
    refine W_seq ?_
    refine W_region ?_
    refine WL_q rfl (ev_move rfl) ?_
    refine WL_q rfl (ev_move rfl) ?_
    have hOr := (hH2.inb hv hx2).1
    have hTr := (hH2.inb hv hx2).2
    have hrl : (z2[i]).2.1.length = cs[i].2.1.length := by rw [hat2]
    rw [hrl] at hOr
    have hc1 := V3_cell1 (rest := rest) hv hx2
    rw [hrl] at hc1
    refine WL_q rfl (ev_indexAddr Tryz.underlying23 sz40 rfl rfl rfl (by omega) (by omega)) ?_
    refine WL_q rfl (ev_fieldAddr fo40_1 rfl) ?_
    refine WL_q rfl (ev_load one24 rfl (hB2.cellAt hc1 (by simp))) ?_
    refine WL_q rfl (ev_move rfl) ?_
    refine WL_m rfl (ev_call rfl (markIntS_own hOr (by omega) (by omega))) ?_
    rintro _ w25 ⟨rfl, hO25, hK25⟩
    have hz25 := hK25.size
    replace hRL0 := hRL0.app hK25 (fun q hq => .inl ⟨(hOr.block q hq).1, (hTr q hq).1, .inl (Nat.le_refl _)⟩)
    replace hOr := hO25
    have hH3 := hH2.setInb (y := (k + (sumC (cs.take i) : Int), nums (k + (sumC (cs.take i) : Int) + 1) cs[i].2.1.length, cs[i].2.2)) hv hx2 (by rw [hat2]) (by rw [hat2]) (by rw [nums_len, hrl]) hK25 (by rw [hrl]; exact hO25)
    obtain ⟨z3, hz3⟩ : ∃ z3, z3 = z2.set i (k + (sumC (cs.take i) : Int), nums (k + (sumC (cs.take i) : Int) + 1) cs[i].2.1.length, cs[i].2.2) := ⟨_, rfl⟩
    rw [← hz3] at hH3
    have hl3 : z3.length = cs.length := by rw [hz3, List.length_set, hl2]
    have hx3 : i < z3.length := by omega
    have hat3 : z3[i] = (k + (sumC (cs.take i) : Int), nums (k + (sumC (cs.take i) : Int) + 1) cs[i].2.1.length, cs[i].2.2) := by subst hz3; rw [List.getElem_set_self]
    obtain ⟨g3, rest3, hg30, hg31, hB3, hg32, hg33, hg34, hg35⟩ := own_blkG hH3.own.1 (by omega)
    obtain rfl : g = g3 := by simpa using hg30
    refine WL_q rfl (ev_assign rfl) ?_
    refine WL_nil ?_
    refine thenE_n ?_
    refine W_seq ?_
    refine W_region ?_
    refine WL_q rfl (ev_move rfl) ?_
    refine WL_q rfl (ev_move rfl) ?_
    refine WL_q rfl (ev_move rfl) ?_
    refine WL_q rfl (ev_indexAddr Tryz.underlying23 sz40 rfl rfl rfl (by omega) (by omega)) ?_
    refine WL_q rfl (ev_fieldAddr fo40_2 rfl) ?_
    refine WL_s (ev_store sz3 rfl rfl rfl hB3 (by rw [List.length_append, hg35]; simp; omega)) ?_
    rintro _ w7_5 hS7_5
    have hz7_5 := hS7_5.size
    replace hRL0 := hRL0.sto hS7_5 (by omega)
    replace hB3 := hS7_5.blk
    have hH4 := hH3.put2 (j := 0 + ((i : Nat) : Int).toNat * 3 + 2) hv hx3 hg31 hg32 hg33 hg34 hg35 (by simp) hS7_5
    have e8 : (z3[i].1, z3[i].2.1, k + (sumC (cs.take i) : Int) + 1 + (cs[i].2.1.length : Int)) = (mkCl k cs)[i]'(Nat.lt_of_lt_of_eq hlt hnl.symm) := by rw [hat3, mkCl_at hlt]
    rw [e8] at hH4
    have e9 : z3.set i ((mkCl k cs)[i]'(Nat.lt_of_lt_of_eq hlt hnl.symm)) = mxl (mkCl k cs) cs (i + 1) := by rw [hz3, List.set_set, hz2, List.set_set, hzs]; exact mxl_put hnl hlt
    rw [e9] at hH4
    refine WL_nil ?_
    refine thenE_n ?_
    refine W_region ?_
    refine WL_q rfl (ev_move rfl) ?_
    refine WL_q rfl (ev_add rfl rfl (by omega)) ?_
    refine WL_q rfl (ev_assign rfl) ?_
    refine WL_nil ?_
    refine blockE_n ?_
    refine thenE_n ?_
    refine W_region ?_
    refine WL_q rfl (ev_move rfl) ?_
    refine WL_q rfl (ev_add rfl rfl (by omega)) ?_
    refine WL_q rfl (ev_assign rfl) ?_
    refine WL_nil ?_
    refine thenE_n ?_
    exact ⟨i + 1, (Subs.c rfl Subs.n), (Subs.c (lkI rfl (by rw [hs9]; omega)) (Subs.c (lkI rfl (by omega)) Subs.n)), ⟨hRL0, ⟨by omega, hH4⟩⟩, by first | omega | (dsimp only; omega)⟩
  · have hp9 := of_decide_eq_false hg9
    refine W_exit ?_
    refine thenE_x ?_
    refine thenE_x ?_
    refine blockE_hit ?_
    refine thenE_n ?_
    refine W_seq ?_
    refine W_region ?_
    refine WL_q rfl (ev_move rfl) ?_
    refine WL_q rfl (ev_assign rfl) ?_
    refine WL_nil ?_
    refine thenE_n ?_
    refine W_ret ?_
    refine ret1 rfl rfl ?_
    have hi9 : i = cs.length := by omega
    subst hi9; refine ⟨by rw [List.take_length], ?_, hRL0⟩; rw [mxl_all hnl] at hHi; exact hHi

set_option maxHeartbeats 1000000 in
set_option maxRecDepth 100000 in
theorem heldClauseS_spec {lo hi n : Nat} (a : Option Addr) (c : Nat) (cs : List Cl) (k : Int) (w : World) (hx : Clauses lo hi w a c (mkCl k cs)) (hl : n = cs.length) (hk : 0 ≤ k ∧ k ≤ 562949953421312) (ht : totC cs ≤ 1048576) :
    Fn Tryz.prog 26 #[.slice a n c, VI k] w (fun o9 w' => o9 = VI (k + (sumC cs : Int)) ∧ Ext w w') := by
  subst hl
  have hnl := mkCl_len k cs
  have hn := totC_len cs
  have hs := sumC_tot cs
  have hE := Ext.refl w
  refine Fn_of Tryz.func26 rfl rfl (by kernel_rfl) rfl ?_
  refine W_seq ?_
  refine W_region ?_
  refine WL_q rfl (ev_assign rfl) ?_
  refine WL_nil ?_
  refine thenE_n ?_
  refine W_seq ?_
  refine W_seq ?_
  refine W_region ?_
  refine WL_q rfl (ev_assign rfl) ?_
  refine WL_nil ?_
  refine thenE_n ?_
  refine W_block ?_
  refine W_loopC (G := Nat) [(0, _)] ((Subs.c rfl Subs.n)) (fun i => [(1, VI (k + (sumC (cs.take i) : Int))), (5, VI (i : Int))]) (fun i w' => Ext w w' ∧ i ≤ cs.length) (fun i => cs.length - i) 0 ((Subs.c (lkI rfl (by simp [sumC])) (Subs.c (lkI rfl (by omega)) Subs.n))) (⟨Ext.refl _, Nat.zero_le _⟩) ?_
  rintro i wL0 ⟨hRL0, hi'⟩
  have hzL0 := hRL0.size
  replace hE := hE.trans hRL0
  replace hx := hx.ext hRL0
  refine W_seq ?_
  refine W_seq ?_
  refine W_region ?_
  refine WL_q rfl (ev_move rfl) ?_
  refine WL_q rfl (ev_move rfl) ?_
  refine WL_q rfl (ev_len Tryz.underlying23 rfl) ?_
  refine WL_q rfl (ev_lss rfl rfl) ?_
  refine WL_nil ?_
  refine thenE_n ?_
  refine W_cond rfl (fun hg9 => ?_) (fun hg9 => ?_)
  · have hp9 := of_decide_eq_true hg9
    refine W_skip ?_
    refine thenE_n ?_
    refine W_seq ?_
    refine W_block ?_
    refine W_seq ?_
    refine W_seq ?_
    refine W_region ?_
    refine WL_q rfl (ev_move rfl) ?_
    refine WL_q rfl (ev_move rfl) ?_
    have hlt : i < cs.length := by omega
    have hx2 : i < (mkCl k cs).length := by omega
    have hs9 := sumC_succ hlt
    have hsi := totC_le hlt
    have hsl := sumC_le (cs := cs) (i + 1)
    have hat := mkCl_at (k := k) hlt (h2 := hx2)
    obtain ⟨a2, c2, hc2, hr2⟩ := hx.cl (i := i) hx2
    rw [hat] at hc2 hr2
    have hc20 : wL0.cell? ⟨blkOf a, offOf a + i * 3 + 0, none⟩ = some (VI (k + (sumC (cs.take i) : Int))) := hc2 0 (by simp)
    have hc21 : wL0.cell? ⟨blkOf a, offOf a + i * 3 + 1, none⟩ = some (.slice a2 cs[i].2.1.length c2) := by
      have h := hc2 1 (by simp)
      simp only [List.getElem_cons_succ, List.getElem_cons_zero, nums_len] at h
      exact h
    have hc22 : wL0.cell? ⟨blkOf a, offOf a + i * 3 + 2, none⟩ = some (VI (k + (sumC (cs.take i) : Int) + 1 + (cs[i].2.1.length : Int))) := hc2 2 (by simp)
    have hr3 : Ints lo hi wL0 a2 c2 (nums (k + (sumC (cs.take i) : Int) + 1) cs[i].2.1.length) := hr2
    refine WL_q rfl (ev_indexAddr Tryz.underlying23 sz40 rfl rfl (hx.isSome (by omega)) (by omega) (by omega)) ?_
    refine WL_q rfl (ev_fieldAddr fo40_0 rfl) ?_
    refine WL_q rfl (ev_load one3 rfl (hc20)) ?_
    refine WL_q rfl (ev_move rfl) ?_
    refine WL_q rfl (ev_neq rfl rfl) ?_
    refine WL_nil ?_
    refine thenE_n ?_
    refine W_cond rfl (fun hg18 => ?_) (fun hg18 => ?_)
    · have hp18 := of_decide_eq_true hg18
      refine W_seq ?_
      refine W_region ?_
      refine WL_q rfl (ev_assign rfl) ?_
      refine WL_nil ?_
      refine thenE_n ?_
      refine W_ret ?_
      refine thenE_r ?_
      refine blockE_r ?_
      refine thenE_r ?_
      refine thenE_r ?_
      refine blockE_r ?_
      refine thenE_r ?_
      refine ret1 rfl rfl ?_
      exact absurd rfl hp18
    · have hp18 := of_decide_eq_false hg18
      refine W_skip ?_
      refine thenE_n ?_
      refine W_seq ?_
      refine W_region ?_
      refine WL_q rfl (ev_move rfl) ?_
      refine WL_q rfl (ev_add rfl rfl (by omega)) ?_
      refine WL_q rfl (ev_assign rfl) ?_
      refine WL_nil ?_
      refine thenE_n ?_
      refine W_seq ?_
      refine W_region ?_
      refine WL_q rfl (ev_move rfl) ?_
      refine WL_q rfl (ev_move rfl) ?_
      refine WL_q rfl (ev_indexAddr Tryz.underlying23 sz40 rfl rfl (hx.isSome (by omega)) (by omega) (by omega)) ?_
      refine WL_q rfl (ev_fieldAddr fo40_1 rfl) ?_
      refine WL_q rfl (ev_load one24 rfl (hc21)) ?_
      refine WL_q rfl (ev_move rfl) ?_
      refine WL_m rfl (ev_call rfl (heldIntS_spec (n := cs[i].2.1.length) _ _ _ _ _ hr3 rfl (by omega) (by omega))) ?_
      rintro _ w27 ⟨rfl, hE27⟩
      have hz27 := hE27.size
      replace hE := hE.trans hE27
      replace hRL0 := hRL0.trans hE27
      replace hx := hx.ext hE27
      refine WL_q rfl (ev_assign rfl) ?_
      refine WL_nil ?_
      refine thenE_n ?_
      refine W_seq ?_
      refine W_seq ?_
      refine W_region ?_
      refine WL_q rfl (ev_move rfl) ?_
      refine WL_q rfl (ev_lss rfl rfl) ?_
      refine WL_nil ?_
      refine thenE_n ?_
      refine W_cond rfl (fun hg29 => ?_) (fun hg29 => ?_)
      · have hp29 := of_decide_eq_true hg29
        refine W_seq ?_
        refine W_region ?_
        refine WL_q rfl (ev_assign rfl) ?_
        refine WL_nil ?_
        refine thenE_n ?_
        refine W_ret ?_
        refine thenE_r ?_
        refine blockE_r ?_
        refine thenE_r ?_
        refine thenE_r ?_
        refine blockE_r ?_
        refine thenE_r ?_
        refine ret1 rfl rfl ?_
        exact absurd hp29 (by omega)
      · have hp29 := of_decide_eq_false hg29
        refine W_skip ?_
        refine thenE_n ?_
        refine W_seq ?_
        refine W_seq ?_
        refine W_region ?_
        refine WL_q rfl (ev_move rfl) ?_
        refine WL_q rfl (ev_move rfl) ?_
        refine WL_q rfl (ev_indexAddr Tryz.underlying23 sz40 rfl rfl (hx.isSome (by omega)) (by omega) (by omega)) ?_
        refine WL_q rfl (ev_fieldAddr fo40_2 rfl) ?_
        refine WL_q rfl (ev_load one3 rfl (hE27.cell hc22)) ?_
        refine WL_q rfl (ev_move rfl) ?_
        refine WL_q rfl (ev_neq rfl rfl) ?_
        refine WL_nil ?_
        refine thenE_n ?_
        refine W_cond rfl (fun hg36 => ?_) (fun hg36 => ?_)
        · have hp36 := of_decide_eq_true hg36
          refine W_seq ?_
          refine W_region ?_
          refine WL_q rfl (ev_assign rfl) ?_
          refine WL_nil ?_
          refine thenE_n ?_
          refine W_ret ?_
          refine thenE_r ?_
          refine blockE_r ?_
          refine thenE_r ?_
          refine thenE_r ?_
          refine blockE_r ?_
          refine thenE_r ?_
          refine ret1 rfl rfl ?_
          exact absurd rfl hp36
        · have hp36 := of_decide_eq_false hg36
          refine W_skip ?_
          refine thenE_n ?_
          refine W_region ?_
          refine WL_q rfl (ev_move rfl) ?_
          refine WL_q rfl (ev_add rfl rfl (by omega)) ?_
          refine WL_q rfl (ev_assign rfl) ?_
          refine WL_nil ?_
          refine blockE_n ?_
          refine thenE_n ?_
          refine W_region ?_
          refine WL_q rfl (ev_move rfl) ?_
          refine WL_q rfl (ev_add rfl rfl (by omega)) ?_
          refine WL_q rfl (ev_assign rfl) ?_
          refine WL_nil ?_
          refine thenE_n ?_
          exact ⟨i + 1, (Subs.c rfl Subs.n), (Subs.c (lkI rfl (by rw [hs9]; omega)) (Subs.c (lkI rfl (by omega)) Subs.n)), ⟨hRL0, by omega⟩, by first | omega | (dsimp only; omega)⟩
  · have hp9 := of_decide_eq_false hg9
    refine W_exit ?_
    refine thenE_x ?_
    refine thenE_x ?_
    refine blockE_hit ?_
    refine thenE_n ?_
    refine W_seq ?_
    refine W_region ?_
    refine WL_q rfl (ev_move rfl) ?_
    refine WL_q rfl (ev_assign rfl) ?_
    refine WL_nil ?_
    refine thenE_n ?_
    refine W_ret ?_
    refine ret1 rfl rfl ?_
    exact ⟨vi (by rw [List.take_of_length_le (show cs.length ≤ i by omega)]), hE⟩

/-- The marks that a machine gets, and the last of them. -/
def mkMc (k : Int) (M : Mach) : Mach := { M with start := numss k M.start, send := numss (k + (sumL M.start : Int)) M.send, clauses := mkCl (k + (sumL M.start : Int) + (sumL M.send : Int)) M.clauses, output := nums (k + (sumL M.start : Int) + (sumL M.send : Int) + (sumC M.clauses : Int)) M.output.length }
def mkTt (k : Int) (M : Mach) : Int := k + (sumL M.start : Int) + (sumL M.send : Int) + (sumC M.clauses : Int) + (M.output.length : Int)
theorem numss_map (k : Int) (xss : List (List Int)) : xss.map List.length = (numss k xss).map List.length := by
  refine List.ext_getElem (by simp [numss_len]) fun i h1 h2 => ?_
  have h3 : i < xss.length := by simpa using h1
  rw [List.getElem_map, List.getElem_map, numss_at h3, nums_len]
section
variable {l r : Nat} {w w' : World} {h : MA} {M : Mach} {v1 v2 v3 : List (Option Addr × Nat)} {k : Int}
abbrev pt4 (h : MA) (M : Mach) (v1 v2 v3 : List (Option Addr × Nat)) : List Part := [pOwn 24 1 h.a1 M.start.length h.c1 (V1 v1 M.start), pOwn 24 1 h.a2 M.send.length h.c2 (V1 v2 M.send), pOwn 40 3 h.a3 M.clauses.length h.c3 (V3 v3 M.clauses), pIntO h.a4 h.c4 M.output]
theorem HMv.hs (x : HMv pIntO l r w h M v1 v2 v3) : Hold l r w (pt4 h M v1 v2 v3 ++ (rowsP v1 M.start ++ (rowsP v2 M.send ++ clsP pIntO v3 M.clauses))) := x.h
theorem HMv.he (x : HMv pIntO l r w h M v1 v2 v3) : Hold l r w ((pt4 h M v1 v2 v3 ++ rowsP v1 M.start) ++ (rowsP v2 M.send ++ clsP pIntO v3 M.clauses)) := by rw [List.append_assoc]; exact x.h
theorem HMv.mk1 (x : HMv pIntO l r w h M v1 v2 v3) (y : Hold l r w' ([pOwn 24 1 h.a1 M.start.length h.c1 (V1 v1 M.start), pOwn 24 1 h.a2 M.send.length h.c2 (V1 v2 M.send), pOwn 40 3 h.a3 M.clauses.length h.c3 (V3 v3 M.clauses), pIntO h.a4 h.c4 M.output] ++ (rowsP v1 (numss k M.start) ++ (rowsP v2 M.send ++ clsP pIntO v3 M.clauses)))) : HMv pIntO l r w' h { M with start := numss k M.start } v1 v2 v3 := by
  refine ⟨by rw [x.l1]; exact (numss_len _ _).symm, x.l2, x.l3, ?_⟩
  unfold mParts
  simp only []
  rw [numss_len, ← V1_len (numss_map k M.start)]
  exact y
theorem HMv.mk2 (x : HMv pIntO l r w h M v1 v2 v3) (y : Hold l r w' (([pOwn 24 1 h.a1 M.start.length h.c1 (V1 v1 M.start), pOwn 24 1 h.a2 M.send.length h.c2 (V1 v2 M.send), pOwn 40 3 h.a3 M.clauses.length h.c3 (V3 v3 M.clauses), pIntO h.a4 h.c4 M.output] ++ rowsP v1 M.start) ++ (rowsP v2 (numss k M.send) ++ clsP pIntO v3 M.clauses))) : HMv pIntO l r w' h { M with send := numss k M.send } v1 v2 v3 := by
  refine ⟨x.l1, by rw [x.l2]; exact (numss_len _ _).symm, x.l3, ?_⟩
  unfold mParts
  simp only []
  rw [numss_len, ← V1_len (numss_map k M.send)]
  simpa using y
theorem HMv.hc (x : HMv pIntO l r w h M v1 v2 v3) : HC l r w [pOwn 24 1 h.a1 M.start.length h.c1 (V1 v1 M.start), pOwn 24 1 h.a2 M.send.length h.c2 (V1 v2 M.send)] ([pIntO h.a4 h.c4 M.output] ++ (rowsP v1 M.start ++ rowsP v2 M.send)) h.a3 h.c3 v3 M.clauses := by
  have := x.h
  unfold HC
  simpa [mParts] using this
theorem HMv.mk3 (x : HMv pIntO l r w h M v1 v2 v3) {cs : List Cl} (hl : cs.length = M.clauses.length) (y : HC l r w' [pOwn 24 1 h.a1 M.start.length h.c1 (V1 v1 M.start), pOwn 24 1 h.a2 M.send.length h.c2 (V1 v2 M.send)] ([pIntO h.a4 h.c4 M.output] ++ (rowsP v1 M.start ++ rowsP v2 M.send)) h.a3 h.c3 v3 cs) : HMv pIntO l r w' h { M with clauses := cs } v1 v2 v3 := by
  refine ⟨x.l1, x.l2, by rw [x.l3]; exact hl.symm, ?_⟩
  unfold HC at y
  simpa [mParts] using y
theorem HMv.mk4 (x : HMv pIntO l r w h M v1 v2 v3) {ys : List Int} {lo : Nat} (hl : ys.length = M.output.length) (k : Apd w w' h.a4) (o : Own lo w' 3 1 h.a4 M.output.length h.c4 (ys.map VI)) : HMv pIntO l r w' h { M with output := ys } v1 v2 v3 := by
  refine ⟨x.l1, x.l2, x.l3, ?_⟩
  have h1 : Hold l r w ([pOwn 24 1 h.a1 M.start.length h.c1 (V1 v1 M.start), pOwn 24 1 h.a2 M.send.length h.c2 (V1 v2 M.send), pOwn 40 3 h.a3 M.clauses.length h.c3 (V3 v3 M.clauses)] ++ ([pIntO h.a4 h.c4 M.output] ++ (rowsP v1 M.start ++ (rowsP v2 M.send ++ clsP pIntO v3 M.clauses)))) := by simpa [mParts] using x.h
  have h2 := h1.setIn (i := 0) (q := pIntO h.a4 h.c4 ys) Nat.zero_lt_one (k.mono fun x hx => ⟨hx.1, fun q hq => hx.2 q.block (pOwn.b hq)⟩) (by show Own 0 w' _ 1 _ ys.length _ _; rw [hl]; exact o.mono (Nat.zero_le _)) rfl
  simpa [mParts] using h2
end

set_option maxRecDepth 100000 in
theorem markMachine_h {l r : Nat} (h : MA) (M : Mach) (k : Int) (w : World) (hM : HM pIntO l r w h M) (hk : 0 ≤ k ∧ k ≤ 1048576) (ht : totM M ≤ 1048576) :
    Fn Tryz.prog 7 #[machV h M, VI k] w (fun o9 w' => o9 = VI (mkTt k M) ∧ HM pIntO l r w' h (mkMc k M) ∧ Rg l r 0 0 w w') := by
  have hrs := hM.rs
  have hX : Rg l r 0 0 w w := Rg.refl
  obtain ⟨v1, v2, v3, hV⟩ := hM
  have hm9 : totM M = totL M.start + totL M.send + totC M.clauses + M.output.length := rfl
  have hq1 := totL_len M.start
  have hq2 := totL_len M.send
  have hq3 := totC_len M.clauses
  have hs1 : totL M.start = M.start.length + sumL M.start := rfl
  have hs2 : totL M.send = M.send.length + sumL M.send := rfl
  have hs3 := sumC_tot M.clauses
  refine Fn_of Tryz.func7 rfl rfl (by kernel_rfl) rfl ?_
  refine W_seq ?_
  refine W_region ?_
  refine WL_m rfl (ev_box rfl) ?_
  rintro _ w2 ⟨rfl, hN2⟩
  have hz2 := hN2.size
  replace hX := hX.trans hN2.ext
  have hB2 : Blk w2 _ _ [_, _, _, _, _, _, _] := hN2.blk
  have hV0 : HMv pIntO l r w2 h M v1 v2 v3 := ⟨hV.l1, hV.l2, hV.l3, hV.h.ext hN2.ext⟩
  refine WL_q rfl (ev_assign rfl) ?_
  refine WL_nil ?_
  refine thenE_n ?_
  refine W_seq ?_
  refine W_region ?_
  refine WL_q rfl (ev_fieldAddr fo26_3 rfl) ?_
  refine WL_q rfl (ev_load one22 rfl (hB2.cell rfl)) ?_
  refine WL_q rfl (ev_move rfl) ?_
  refine WL_m rfl (ev_call rfl (markIntSS_h _ _ v1 h.a1 h.c1 M.start (k) _ hV0.hs (List.mem_cons_self ..) hV.l1 (by omega) (by omega) (by omega))) ?_
  rintro _ w8 ⟨rfl, hH8, hK8⟩
  have hz8 := hK8.size
  replace hX := hX.rg hK8 (by omega)
  replace hB2 := hB2.rg hK8 (by omega)
  have hV1 := hV0.mk1 hH8
  refine WL_q rfl (ev_assign rfl) ?_
  refine WL_nil ?_
  refine thenE_n ?_
  refine W_seq ?_
  refine W_region ?_
  refine WL_q rfl (ev_fieldAddr fo26_4 rfl) ?_
  refine WL_q rfl (ev_load one22 rfl (hB2.cell rfl)) ?_
  refine WL_q rfl (ev_move rfl) ?_
  refine WL_m rfl (ev_call rfl (markIntSS_h _ _ v2 h.a2 h.c2 M.send (k + (sumL M.start : Int)) _ hV1.he (List.mem_cons_of_mem _ (List.mem_cons_self ..)) hV.l2 (by omega) (by omega) (by omega))) ?_
  rintro _ w12 ⟨rfl, hH12, hK12⟩
  have hz12 := hK12.size
  replace hX := hX.rg hK12 (by omega)
  replace hB2 := hB2.rg hK12 (by omega)
  have hV2 := hV1.mk2 hH12
  refine WL_q rfl (ev_assign rfl) ?_
  refine WL_nil ?_
  refine thenE_n ?_
  refine W_seq ?_
  refine W_region ?_
  refine WL_q rfl (ev_fieldAddr fo26_5 rfl) ?_
  refine WL_q rfl (ev_load one23 rfl (hB2.cell rfl)) ?_
  refine WL_q rfl (ev_move rfl) ?_
  refine WL_m rfl (ev_call rfl (markClauseS_h _ _ v3 h.a3 h.c3 M.clauses (k + (sumL M.start : Int) + (sumL M.send : Int)) _ hV2.hc hV.l3 (by omega) (by omega))) ?_
  rintro _ w16 ⟨rfl, hH16, hK16⟩
  have hz16 := hK16.size
  replace hX := hX.rg hK16 (by omega)
  replace hB2 := hB2.rg hK16 (by omega)
  have hV3 := hV2.mk3 (mkCl_len _ _) hH16
  refine WL_q rfl (ev_assign rfl) ?_
  refine WL_nil ?_
  refine thenE_n ?_
  refine W_seq ?_
  refine W_region ?_
  refine WL_q rfl (ev_fieldAddr fo26_6 rfl) ?_
  refine WL_q rfl (ev_load one24 rfl (hB2.cell rfl)) ?_
  refine WL_q rfl (ev_move rfl) ?_
  have hO9 := hV3.out4.1
  refine WL_m rfl (ev_call rfl (markIntS_own (xs := M.output) hO9 (by omega) (by omega))) ?_
  rintro _ w20 ⟨rfl, hO20, hK20⟩
  have hz20 := hK20.size
  replace hX := hX.app hK20 (fun q hq => .inl ⟨(hO9.block q hq).1, (hV3.out4.2 q hq).1, .inl (Nat.le_refl _)⟩)
  replace hO9 := hO20
  refine WL_q rfl (ev_assign rfl) ?_
  refine WL_nil ?_
  refine thenE_n ?_
  refine W_seq ?_
  refine W_region ?_
  refine WL_q rfl (ev_move rfl) ?_
  refine WL_q rfl (ev_assign rfl) ?_
  refine WL_nil ?_
  refine thenE_n ?_
  refine W_ret ?_
  refine ret1 rfl rfl ?_
  exact ⟨rfl, ⟨v1, v2, v3, hV3.mk4 (nums_len _ _) hK20 hO20⟩, hX⟩

theorem heldIntS_n {lo hi n m : Nat} (a : Option Addr) (c : Nat) (k : Int) (w : World) (hx : Ints lo hi w a c (nums k m)) (e : n = m) (hk : 0 ≤ k ∧ k ≤ 1125899906842624) (hn : m ≤ 1048576) : Fn Tryz.prog 27 #[.slice a n c, VI k] w (fun o9 w' => o9 = VI (k + (m : Int)) ∧ Ext w w') := by
  subst e; exact heldIntS_spec a c _ k w hx rfl hk hn

set_option maxRecDepth 100000 in
theorem heldMachine_m {l r : Nat} (h : MA) (M : Mach) (k : Int) (w : World) (hI : IsMach l r w h (mkMc k M)) (hk : 0 ≤ k ∧ k ≤ 1048576) (ht : totM M ≤ 1048576) :
    Fn Tryz.prog 8 #[machV h (mkMc k M), VI k] w (fun o9 w' => o9 = VI (mkTt k M) ∧ Ext w w') := by
  have hm9 : totM M = totL M.start + totL M.send + totC M.clauses + M.output.length := rfl
  have hq1 := totL_len M.start
  have hq2 := totL_len M.send
  have hq3 := totC_len M.clauses
  have hs1 : totL M.start = M.start.length + sumL M.start := rfl
  have hs2 : totL M.send = M.send.length + sumL M.send := rfl
  have hs3 := sumC_tot M.clauses
  have hE := Ext.refl w
  refine Fn_of Tryz.func8 rfl rfl (by kernel_rfl) rfl ?_
  refine W_seq ?_
  refine W_region ?_
  refine WL_m rfl (ev_box rfl) ?_
  rintro _ w2 ⟨rfl, hN2⟩
  have hz2 := hN2.size
  replace hE := hE.trans hN2.ext
  replace hI := hI.ext hN2.ext
  have hB2 : Blk w2 _ _ [_, _, _, _, _, _, _] := hN2.blk
  refine WL_q rfl (ev_assign rfl) ?_
  refine WL_nil ?_
  refine thenE_n ?_
  refine W_seq ?_
  refine W_region ?_
  refine WL_q rfl (ev_fieldAddr fo26_3 rfl) ?_
  refine WL_q rfl (ev_load one22 rfl (hB2.cell rfl)) ?_
  refine WL_q rfl (ev_move rfl) ?_
  refine WL_m rfl (ev_call rfl (heldIntSS_spec h.a1 h.c1 M.start (k) _ hI.start (numss_len _ _) (by omega) (by omega) (by omega))) ?_
  rintro _ w8 ⟨rfl, hE8⟩
  have hz8 := hE8.size
  replace hE := hE.trans hE8
  replace hI := hI.ext hE8
  replace hB2 := hB2.ext hE8
  refine WL_q rfl (ev_assign rfl) ?_
  refine WL_nil ?_
  refine thenE_n ?_
  refine W_seq ?_
  refine W_seq ?_
  refine W_region ?_
  refine WL_q rfl (ev_move rfl) ?_
  refine WL_q rfl (ev_lss rfl rfl) ?_
  refine WL_nil ?_
  refine thenE_n ?_
  refine W_cond rfl (fun hg10 => ?_) (fun hg10 => ?_)
  · have hp10 := of_decide_eq_true hg10
    refine W_seq ?_
    refine W_region ?_
    refine WL_q rfl (ev_assign rfl) ?_
    refine WL_nil ?_
    refine thenE_n ?_
    refine W_ret ?_
    refine thenE_r ?_
    refine ret1 rfl rfl ?_
    exact absurd hp10 (by omega)
  · have hp10 := of_decide_eq_false hg10
    refine W_skip ?_
    refine thenE_n ?_
    refine W_seq ?_
    refine W_region ?_
    refine WL_q rfl (ev_fieldAddr fo26_4 rfl) ?_
    refine WL_q rfl (ev_load one22 rfl (hB2.cell rfl)) ?_
    refine WL_q rfl (ev_move rfl) ?_
    refine WL_m rfl (ev_call rfl (heldIntSS_spec h.a2 h.c2 M.send (k + (sumL M.start : Int)) _ hI.send (numss_len _ _) (by omega) (by omega) (by omega))) ?_
    rintro _ w14 ⟨rfl, hE14⟩
    have hz14 := hE14.size
    replace hE := hE.trans hE14
    replace hI := hI.ext hE14
    replace hB2 := hB2.ext hE14
    refine WL_q rfl (ev_assign rfl) ?_
    refine WL_nil ?_
    refine thenE_n ?_
    refine W_seq ?_
    refine W_seq ?_
    refine W_region ?_
    refine WL_q rfl (ev_move rfl) ?_
    refine WL_q rfl (ev_lss rfl rfl) ?_
    refine WL_nil ?_
    refine thenE_n ?_
    refine W_cond rfl (fun hg16 => ?_) (fun hg16 => ?_)
    · have hp16 := of_decide_eq_true hg16
      refine W_seq ?_
      refine W_region ?_
      refine WL_q rfl (ev_assign rfl) ?_
      refine WL_nil ?_
      refine thenE_n ?_
      refine W_ret ?_
      refine thenE_r ?_
      refine ret1 rfl rfl ?_
      exact absurd hp16 (by omega)
    · have hp16 := of_decide_eq_false hg16
      refine W_skip ?_
      refine thenE_n ?_
      refine W_seq ?_
      refine W_region ?_
      refine WL_q rfl (ev_fieldAddr fo26_5 rfl) ?_
      refine WL_q rfl (ev_load one23 rfl (hB2.cell rfl)) ?_
      refine WL_q rfl (ev_move rfl) ?_
      refine WL_m rfl (ev_call rfl (heldClauseS_spec h.a3 h.c3 M.clauses (k + (sumL M.start : Int) + (sumL M.send : Int)) _ hI.clauses (mkCl_len _ _) (by omega) (by omega))) ?_
      rintro _ w20 ⟨rfl, hE20⟩
      have hz20 := hE20.size
      replace hE := hE.trans hE20
      replace hI := hI.ext hE20
      replace hB2 := hB2.ext hE20
      refine WL_q rfl (ev_assign rfl) ?_
      refine WL_nil ?_
      refine thenE_n ?_
      refine W_seq ?_
      refine W_seq ?_
      refine W_region ?_
      refine WL_q rfl (ev_move rfl) ?_
      refine WL_q rfl (ev_lss rfl rfl) ?_
      refine WL_nil ?_
      refine thenE_n ?_
      refine W_cond rfl (fun hg22 => ?_) (fun hg22 => ?_)
      · have hp22 := of_decide_eq_true hg22
        refine W_seq ?_
        refine W_region ?_
        refine WL_q rfl (ev_assign rfl) ?_
        refine WL_nil ?_
        refine thenE_n ?_
        refine W_ret ?_
        refine thenE_r ?_
        refine ret1 rfl rfl ?_
        exact absurd hp22 (by omega)
      · have hp22 := of_decide_eq_false hg22
        refine W_skip ?_
        refine thenE_n ?_
        refine W_seq ?_
        refine W_region ?_
        refine WL_q rfl (ev_fieldAddr fo26_6 rfl) ?_
        refine WL_q rfl (ev_load one24 rfl (hB2.cell rfl)) ?_
        refine WL_q rfl (ev_move rfl) ?_
        refine WL_m rfl (ev_call rfl (heldIntS_n h.a4 h.c4 (k + (sumL M.start : Int) + (sumL M.send : Int) + (sumC M.clauses : Int)) _ hI.output (nums_len _ _) (by omega) (by omega))) ?_
        rintro _ w26 ⟨rfl, hE26⟩
        have hz26 := hE26.size
        replace hE := hE.trans hE26
        replace hI := hI.ext hE26
        replace hB2 := hB2.ext hE26
        refine WL_q rfl (ev_assign rfl) ?_
        refine WL_nil ?_
        refine thenE_n ?_
        refine W_seq ?_
        refine W_seq ?_
        refine W_region ?_
        refine WL_q rfl (ev_move rfl) ?_
        refine WL_q rfl (ev_lss rfl rfl) ?_
        refine WL_nil ?_
        refine thenE_n ?_
        refine W_cond rfl (fun hg28 => ?_) (fun hg28 => ?_)
        · have hp28 := of_decide_eq_true hg28
          refine W_seq ?_
          refine W_region ?_
          refine WL_q rfl (ev_assign rfl) ?_
          refine WL_nil ?_
          refine thenE_n ?_
          refine W_ret ?_
          refine thenE_r ?_
          refine ret1 rfl rfl ?_
          exact absurd hp28 (by omega)
        · have hp28 := of_decide_eq_false hg28
          refine W_skip ?_
          refine thenE_n ?_
          refine W_seq ?_
          refine W_region ?_
          refine WL_q rfl (ev_move rfl) ?_
          refine WL_q rfl (ev_assign rfl) ?_
          refine WL_nil ?_
          refine thenE_n ?_
          refine W_ret ?_
          refine ret1 rfl rfl ?_
          exact ⟨rfl, hE⟩

end Go.Proofs.YtdpdjbfjjlpfgaaGreatDoor
