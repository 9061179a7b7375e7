/- Contract of impl.UnfoldNetwork. -/
import Derived.Test.YtladejfcplpnaaaUnf2
namespace Go.Proofs.Ytladejfcplpnaaa
open Go Go.RowKit

set_option maxRecDepth 100000 in
theorem viDepth_spec (t : Int) (w : World) :
    Fn Try.prog 46 #[VI t] w (fun v w' => v = VB (inR t 0 80) ∧ w = w') := by
  refine Fn_of Try.func46 rfl rfl (by kernel_rfl) rfl ?_
  refine W_seq ?_
  refine W_region ?_
  refine WL_q rfl (ev_assign rfl) ?_
  refine WL_nil ?_
  refine thenE_n ?_
  refine W_seq ?_
  refine W_region ?_
  refine WL_q rfl (ev_move rfl) ?_
  refine WL_m rfl (ev_call rfl (l1In_spec _ _ _ _)) ?_
  rintro _ _ ⟨rfl, rfl⟩
  refine WL_q rfl (ev_assign rfl) ?_
  refine WL_nil ?_
  refine thenE_n ?_
  refine W_ret ?_
  refine ret1 rfl rfl ?_
  exact ⟨rfl, rfl⟩

set_option maxRecDepth 100000 in
theorem isDepth_spec (t : Int) (w : World) :
    Fn Try.prog 48 #[VI t] w (fun v w' => v = VB (inR t 0 80) ∧ w = w') := by
  refine Fn_of Try.func48 rfl rfl (by kernel_rfl) rfl ?_
  refine W_seq ?_
  refine W_region ?_
  refine WL_q rfl (ev_assign rfl) ?_
  refine WL_nil ?_
  refine thenE_n ?_
  refine W_seq ?_
  refine W_region ?_
  refine WL_q rfl (ev_move rfl) ?_
  refine WL_m rfl (ev_call rfl (within_spec _ _ _ _)) ?_
  rintro _ _ ⟨rfl, rfl⟩
  refine WL_q rfl (ev_assign rfl) ?_
  refine WL_nil ?_
  refine thenE_n ?_
  refine W_ret ?_
  refine ret1 rfl rfl ?_
  exact ⟨rfl, rfl⟩

theorem pc_zeros9 (n : Nat) : (List.replicate n [VI 0, VI 0]).flatten = pairCells (List.replicate n (0, 0)) := by simp [pairCells]
section
variable {A : Net} {v d : Int} {i k : Nat} {z : Wk} {X : List Wk}
theorem RI_root : RI A.ends d [rootW v] = [zrW A.ends d (rootW v)] := by
  show attW A.ends d [] (rootW v) = _
  unfold attW
  rw [if_pos (by show (-1 : Int) < 0; omega)]
  rfl
theorem root_row (hv : v.toNat < A.ends.length) (hd : 0 < d) : RI A.ends d [rootW v] = [List.replicate A.ends[v.toNat].length (0, 0)] := by
  rw [RI_root]
  unfold zrW zlW
  rw [if_pos (show (rootW v).t < d from hd), show rowE A.ends (rootW v).x = A.ends[v.toNat] from rowE_at hv]
theorem root_nil (hd : ¬ 0 < d) : RI A.ends d [rootW v] = [[]] := by
  rw [RI_root]
  unfold zrW zlW
  rw [if_neg (show ¬ (rootW v).t < d from hd), if_neg hd]; rfl
theorem RI_kid (hi : i < (RI A.ends d X).length) : RI A.ends d (X ++ [kidW A.ends i z k]) = (RI A.ends d X).set i ((RI A.ends d X)[i].set k ((X.length : Int), qFW d (kidW A.ends i z k))) ++ [(zrW A.ends d (kidW A.ends i z k)).set (qFW d (kidW A.ends i z k)).toNat ((i : Int), (k : Int))] := by
  rw [RI_snoc]
  unfold attW
  rw [if_neg (by show ¬ (i : Int) < 0; omega)]
  show (RI A.ends d X).set (i : Int).toNat (((RI A.ends d X).getD (i : Int).toNat []).set (k : Int).toNat (((RI A.ends d X).length : Int), qFW d (kidW A.ends i z k))) ++ [(zrW A.ends d (kidW A.ends i z k)).set (qFW d (kidW A.ends i z k)).toNat ((i : Int), (k : Int))] = _
  rw [Int.toNat_natCast, Int.toNat_natCast, getD_eq hi, RI_len]
theorem kid_x (hx : z.x.toNat < A.ends.length) (hl : k < A.ends[z.x.toNat].length) : (kidW A.ends i z k).x = A.ends[z.x.toNat][k].1 ∧ (kidW A.ends i z k).q = A.ends[z.x.toNat][k].2 := by
  have e : (rowE A.ends z.x).getD k (0, 0) = A.ends[z.x.toNat][k] := by rw [rowE_at hx, getD_eq hl]
  exact ⟨congrArg Prod.fst e, congrArg Prod.snd e⟩
theorem kid_end (h : z.t + 1 = d) (hd : 0 < d) : qFW d (kidW A.ends i z k) = 0 ∧ zlW A.ends d (kidW A.ends i z k) = 1 := by
  refine ⟨if_pos h, ?_⟩
  unfold zlW
  rw [if_neg (show ¬ (kidW A.ends i z k).t < d by show ¬ z.t + 1 < d; omega), if_pos hd]
theorem kid_mid (h : ¬ z.t + 1 = d) (ht : z.t < d) (hx : z.x.toNat < A.ends.length) (hl : k < A.ends[z.x.toNat].length) (h2 : A.ends[z.x.toNat][k].1.toNat < A.ends.length) : qFW d (kidW A.ends i z k) = A.ends[z.x.toNat][k].2 ∧ zlW A.ends d (kidW A.ends i z k) = A.ends[A.ends[z.x.toNat][k].1.toNat].length := by
  obtain ⟨e1, e2⟩ := kid_x (i := i) hx hl
  refine ⟨(if_neg h).trans e2, ?_⟩
  unfold zlW
  rw [if_pos (show (kidW A.ends i z k).t < d by show z.t + 1 < d; omega), e1, rowE_at h2]
theorem kid_facts (hA : NOk A) (hU : UI A v d i k X) (hw : X[i]? = some z) (ht : z.t < d) (hq : ¬ (k : Int) = z.q) (hx : z.x.toNat < A.ends.length) (hl : k < A.ends[z.x.toNat].length) (hi : i < (RI A.ends d X).length) : 0 ≤ qFW d (kidW A.ends i z k) ∧ (qFW d (kidW A.ends i z k)).toNat < zlW A.ends d (kidW A.ends i z k) ∧ (RI A.ends d X)[i].length = A.ends[z.x.toNat].length := by
  have hl' : k < (rowE A.ends z.x).length := by rw [rowE_at hx]; exact hl
  have hn := hU.new hA.endsOk hw ht hq hl'
  obtain ⟨_, _, _, h4, h5, _⟩ := hn.up hA (c := X.length) (w := kidW A.ends i z k) (by simp) (by have := get_lt hw; omega)
  refine ⟨h4, h5, ?_⟩
  have hT : X.take X.length = X := List.take_length
  have := RI_rows hA hU X.length (Nat.le_refl _) i z (get_lt hw) hw
  rw [hT, getD_eq hi] at this
  rw [this]
  unfold zlW
  rw [if_pos ht, rowE_at hx]
theorem kid_inp (hx : z.x.toNat < A.ends.length) (hl : k < A.ends[z.x.toNat].length) (h2 : A.ends[z.x.toNat][k].1.toNat < A.inputs.length) : inpW A (kidW A.ends i z k) = A.inputs[A.ends[z.x.toNat][k].1.toNat] := by
  unfold inpW
  rw [(kid_x (i := i) hx hl).1, getD_eq h2]
theorem root_inp (h2 : v.toNat < A.inputs.length) : inpW A (rootW v) = A.inputs[v.toNat] := getD_eq h2
end

set_option maxHeartbeats 4000000 in
set_option maxRecDepth 100000 in
theorem UnfoldNetwork_spec {loA hiA : Nat} (nA : NA) (A : Net) (v : Int) (d : Int) (w : World) (hA : IsNet loA hiA w nA A) (hhiA : hiA ≤ w.heap.size) (hnA : totN A ≤ 1048576) :
    Fn Try.prog 23 #[netV nA A, VI v, VI d] w (fun o9 w' => ∃ h' U q, o9 = .tuple #[netV h' U, VB q] ∧ RV (⟨[], [], []⟩ : Net) (opt (UOk A v d) (unfN A v d)) U q ∧ OwnNet w.heap.size w'.heap.size w' 61 3 h' U ∧ totN U ≤ 1048576 ∧ Ext w w') := by
  have hqA := totL_len A.ends
  have hmA : totL A.ends + A.ids.length + A.inputs.length ≤ 1048576 := hnA
  have hE := Ext.refl w
  refine Fn_of Try.func23 rfl rfl (by kernel_rfl) rfl ?_
  refine W_seq ?_
  refine W_region ?_
  refine WL_m rfl (ev_box rfl) ?_
  rintro _ w3 ⟨rfl, hN3⟩
  have hz3 := hN3.size
  replace hE := hE.trans hN3.ext
  replace hA := hA.ext hN3.ext
  have hB3 : Blk w3 _ _ [_, _, _] := hN3.blk
  refine WL_m rfl (ev_alloc zr31) ?_
  rintro _ w6 ⟨rfl, hN6⟩
  have hz6 := hN6.size
  replace hE := hE.trans hN6.ext
  replace hA := hA.ext hN6.ext
  replace hB3 := hB3.ext hN6.ext
  have hB6 : Blk w6 _ _ [_, _, _] := hN6.blk
  refine WL_q rfl (ev_assign rfl) ?_
  refine WL_nil ?_
  refine thenE_n ?_
  refine W_seq ?_
  refine W_seq ?_
  refine W_region ?_
  refine WL_q rfl (ev_loads st31 sz31 rfl (cellsB hB3) rfl) ?_
  refine WL_m rfl (ev_call rfl (IsNetwork_spec _ A _ hA (by omega) (by omega))) ?_
  rintro _ w18 ⟨b18, rfl, hb18, hE18⟩
  have hz18 := hE18.size
  replace hE := hE.trans hE18
  replace hA := hA.ext hE18
  replace hB3 := hB3.ext hE18
  replace hB6 := hB6.ext hE18
  refine WL_q rfl (ev_not rfl) ?_
  refine WL_q rfl (ev_move rfl) ?_
  refine WL_splitv (t := 20) rfl (fun hg19 => ?_) (fun hg19 => ?_)
  · have hg18 := not_true hg19
    have hp18 := ttN hb18 hg18
    refine WL_no rfl rfl hg19 rfl ?_
    refine WL_no rfl rfl hg19 rfl ?_
    refine WL_no rfl rfl hg19 rfl ?_
    refine WL_no rfl rfl hg19 rfl ?_
    refine WL_q rfl (ev_pick_t rfl hg19 rfl) ?_
    refine WL_q rfl (ev_move rfl) ?_
    refine WL_no rfl rfl rfl rfl ?_
    refine WL_no rfl rfl rfl rfl ?_
    refine WL_no rfl rfl rfl rfl ?_
    refine WL_q rfl (ev_pick_t rfl rfl rfl) ?_
    refine WL_nil ?_
    refine thenE_n ?_
    refine W_cond_t rfl ?_
    refine W_seq ?_
    refine W_region ?_
    refine WL_q rfl (ev_buildP0 sn31_3 zr31 ) ?_
    refine WL_s (ev_stores sz31 rfl rfl rfl (by simp [Value.oneCell']) hB6 (by simp)) ?_
    rintro _ w2_1 hS2_1
    have hz2_1 := hS2_1.size
    replace hE := hE.sto hS2_1 (by omega)
    replace hA := hA.sto hS2_1 (by omega)
    replace hB3 := hB3.sto hS2_1 (by omega)
    replace hB6 : Blk w2_1 _ _ [_, _, _] := hS2_1.blk
    refine WL_q rfl (ev_assign rfl) ?_
    refine WL_nil ?_
    refine thenE_n ?_
    refine W_ret ?_
    refine thenE_r ?_
    refine retc2 rfl rfl st31 sz31 (cellsB hB6) rfl rfl ?_
    first | (exact ⟨⟨none, 0, none, 0, none, 0⟩, ⟨[], [], []⟩, _, rfl, .no (fun h => hp18 h.1.1), OwnNet.nil, by decide, hE⟩) | (exact ⟨⟨none, 0, none, 0, none, 0⟩, ⟨[], [], []⟩, _, rfl, .no (fun h => hp23 h.1.2), OwnNet.nil, by decide, hE⟩) | (exact ⟨⟨none, 0, none, 0, none, 0⟩, ⟨[], [], []⟩, _, rfl, .no (fun h => hp28 h.2.1), OwnNet.nil, by decide, hE⟩) | (exact ⟨⟨none, 0, none, 0, none, 0⟩, ⟨[], [], []⟩, _, rfl, .no (fun h => absurd h.2.2 (Nat.not_le.2 (uK_big hz (by omega) hlk2 hp84 (by omega) (by omega)))), OwnNet.nil, by decide, hE⟩) | (exact hq152.elim (fun ⟨e1, h1, e2, e3⟩ => (by subst e1 e2 e3; exact ⟨_, unfN A v d, _, rfl, .yes hUO rfl, OwnNet.up ⟨_, _, hN⟩ (by omega) (by omega), NOk.tot (unfN_ok hUO), hE⟩)) (fun ⟨e1, h1, e2, e3⟩ => absurd (unfN_ok hUO) h1))
  · have hg18 := not_false hg19
    have hp18 := hb18.1 hg18
    refine WL_qg rfl rfl hg19 rfl (ev_loads st31 sz31 rfl (cellsB hB3) rfl) ?_
    refine WL_qg rfl rfl hg19 rfl (ev_move rfl) ?_
    refine WL_mg rfl rfl hg19 rfl (ev_call rfl (hasNode_spec _ A _ _ (by omega))) ?_
    rintro _ w23 ⟨b23, rfl, hb23, hE23⟩
    have hz23 := hE23.size
    replace hE := hE.trans hE23
    replace hA := hA.ext hE23
    replace hB3 := hB3.ext hE23
    replace hB6 := hB6.ext hE23
    refine WL_qg rfl rfl hg19 rfl (ev_not rfl) ?_
    refine WL_q rfl (ev_pick_f rfl hg19 rfl) ?_
    refine WL_q rfl (ev_move rfl) ?_
    refine WL_splitv (t := 26) rfl (fun hg24 => ?_) (fun hg24 => ?_)
    · have hg23 := not_true hg24
      have hp23 := ttN hb23 hg23
      refine WL_no rfl rfl hg24 rfl ?_
      refine WL_no rfl rfl hg24 rfl ?_
      refine WL_no rfl rfl hg24 rfl ?_
      refine WL_q rfl (ev_pick_t rfl hg24 rfl) ?_
      refine WL_nil ?_
      refine thenE_n ?_
      refine W_cond_t rfl ?_
      refine W_seq ?_
      refine W_region ?_
      refine WL_q rfl (ev_buildP0 sn31_3 zr31 ) ?_
      refine WL_s (ev_stores sz31 rfl rfl rfl (by simp [Value.oneCell']) hB6 (by simp)) ?_
      rintro _ w2_1 hS2_1
      have hz2_1 := hS2_1.size
      replace hE := hE.sto hS2_1 (by omega)
      replace hA := hA.sto hS2_1 (by omega)
      replace hB3 := hB3.sto hS2_1 (by omega)
      replace hB6 : Blk w2_1 _ _ [_, _, _] := hS2_1.blk
      refine WL_q rfl (ev_assign rfl) ?_
      refine WL_nil ?_
      refine thenE_n ?_
      refine W_ret ?_
      refine thenE_r ?_
      refine retc2 rfl rfl st31 sz31 (cellsB hB6) rfl rfl ?_
      first | (exact ⟨⟨none, 0, none, 0, none, 0⟩, ⟨[], [], []⟩, _, rfl, .no (fun h => hp18 h.1.1), OwnNet.nil, by decide, hE⟩) | (exact ⟨⟨none, 0, none, 0, none, 0⟩, ⟨[], [], []⟩, _, rfl, .no (fun h => hp23 h.1.2), OwnNet.nil, by decide, hE⟩) | (exact ⟨⟨none, 0, none, 0, none, 0⟩, ⟨[], [], []⟩, _, rfl, .no (fun h => hp28 h.2.1), OwnNet.nil, by decide, hE⟩) | (exact ⟨⟨none, 0, none, 0, none, 0⟩, ⟨[], [], []⟩, _, rfl, .no (fun h => absurd h.2.2 (Nat.not_le.2 (uK_big hz (by omega) hlk2 hp84 (by omega) (by omega)))), OwnNet.nil, by decide, hE⟩) | (exact hq152.elim (fun ⟨e1, h1, e2, e3⟩ => (by subst e1 e2 e3; exact ⟨_, unfN A v d, _, rfl, .yes hUO rfl, OwnNet.up ⟨_, _, hN⟩ (by omega) (by omega), NOk.tot (unfN_ok hUO), hE⟩)) (fun ⟨e1, h1, e2, e3⟩ => absurd (unfN_ok hUO) h1))
    · have hg23 := not_false hg24
      have hp23 := hb23.1 hg23
      refine WL_qg rfl rfl hg24 rfl (ev_move rfl) ?_
      refine WL_mg rfl rfl hg24 rfl (ev_call rfl (isDepth_spec _ _)) ?_
      rintro _ _ ⟨rfl, rfl⟩
      refine WL_qg rfl rfl hg24 rfl (ev_not rfl) ?_
      refine WL_q rfl (ev_pick_f rfl hg24 rfl) ?_
      refine WL_nil ?_
      refine thenE_n ?_
      refine W_cond rfl (fun hg29 => ?_) (fun hg29 => ?_)
      · have hg28 := not_true hg29
        have hp28 := inR_false.1 hg28
        refine W_seq ?_
        refine W_region ?_
        refine WL_q rfl (ev_buildP0 sn31_3 zr31 ) ?_
        refine WL_s (ev_stores sz31 rfl rfl rfl (by simp [Value.oneCell']) hB6 (by simp)) ?_
        rintro _ w2_1 hS2_1
        have hz2_1 := hS2_1.size
        replace hE := hE.sto hS2_1 (by omega)
        replace hA := hA.sto hS2_1 (by omega)
        replace hB3 := hB3.sto hS2_1 (by omega)
        replace hB6 : Blk w2_1 _ _ [_, _, _] := hS2_1.blk
        refine WL_q rfl (ev_assign rfl) ?_
        refine WL_nil ?_
        refine thenE_n ?_
        refine W_ret ?_
        refine thenE_r ?_
        refine retc2 rfl rfl st31 sz31 (cellsB hB6) rfl rfl ?_
        first | (exact ⟨⟨none, 0, none, 0, none, 0⟩, ⟨[], [], []⟩, _, rfl, .no (fun h => hp18 h.1.1), OwnNet.nil, by decide, hE⟩) | (exact ⟨⟨none, 0, none, 0, none, 0⟩, ⟨[], [], []⟩, _, rfl, .no (fun h => hp23 h.1.2), OwnNet.nil, by decide, hE⟩) | (exact ⟨⟨none, 0, none, 0, none, 0⟩, ⟨[], [], []⟩, _, rfl, .no (fun h => hp28 h.2.1), OwnNet.nil, by decide, hE⟩) | (exact ⟨⟨none, 0, none, 0, none, 0⟩, ⟨[], [], []⟩, _, rfl, .no (fun h => absurd h.2.2 (Nat.not_le.2 (uK_big hz (by omega) hlk2 hp84 (by omega) (by omega)))), OwnNet.nil, by decide, hE⟩) | (exact hq152.elim (fun ⟨e1, h1, e2, e3⟩ => (by subst e1 e2 e3; exact ⟨_, unfN A v d, _, rfl, .yes hUO rfl, OwnNet.up ⟨_, _, hN⟩ (by omega) (by omega), NOk.tot (unfN_ok hUO), hE⟩)) (fun ⟨e1, h1, e2, e3⟩ => absurd (unfN_ok hUO) h1))
      · have hg28 := not_false hg29
        have hp28 := inR_true.1 hg28
        refine W_skip ?_
        refine thenE_n ?_
        refine W_seq ?_
        refine W_region ?_
        refine WL_q rfl (ev_move rfl) ?_
        refine WL_q rfl (ev_build3 sn77_3 rfl rfl rfl rfl rfl rfl) ?_
        have hkA := hp18
        have hndA := hkA.nodes
        have hinA := hkA.inLen
        have h6 := hkA.six
        have hv1 := hp23.1
        have hv2 := hp23.2
        have h6v := h6 _ (List.getElem_mem hv2)
        have hd1 := hp28.1
        have hd2 := hp28.2
        have hin0 := root_inp (A := A) (v := v) (by omega)
        refine WL_m rfl (ev_lit1 Try.underlying78 el77 (by decide) (by decide) rfl rfl) ?_
        rintro _ w34 ⟨rfl, hN34⟩
        have hz34 := hN34.size
        replace hE := hE.trans hN34.ext
        replace hA := hA.ext hN34.ext
        replace hB3 := hB3.ext hN34.ext
        replace hB6 := hB6.ext hN34.ext
        have hB34 := hN34.blk
        refine WL_q rfl (ev_assign rfl) ?_
        refine WL_nil ?_
        refine thenE_n ?_
        refine W_seq ?_
        refine W_drawT (X := Nat × Nat × Nat) (fun x => [(9, ptr x.1 0)]) (fun x w' => (w34.heap.size ≤ x.1 ∧ x.1 < w'.heap.size ∧ w34.heap.size ≤ x.2.1 ∧ x.2.1 < w'.heap.size ∧ w34.heap.size ≤ x.2.2 ∧ x.2.2 < w'.heap.size ∧ x.1 ≠ x.2.1 ∧ x.1 ≠ x.2.2 ∧ x.2.1 ≠ x.2.2) ∧ Blk w' x.1 31 [.slice (some ⟨x.2.1, 0, none⟩) 1 1, .slice none 0 0, .slice (some ⟨x.2.2, 0, none⟩) 1 1] ∧ Blk w' x.2.1 56 [.slice none 0 0] ∧ Blk w' x.2.2 3 [VI A.inputs[v.toNat]] ∧ Ext w34 w') w34.heap.size (by omega) (.q 1 (.q 2 (.q 3 (.q 4 (.q 5 (.c 0 (.b 6 (.q 7 (.a 8 (.a 9 .done))) 8 (.a 6 (.q 7 (.a 9 .done)))) 6 (.b 0 (.q 7 (.a 8 (.a 9 .done))) 8 (.a 0 (.q 7 (.a 9 .done)))) 8 (.b 0 (.a 6 (.q 7 (.a 9 .done))) 6 (.a 0 (.q 7 (.a 9 .done)))))))))) mixed (by kernel_rfl) rfl (by kernel_rfl) ?_ ?_
        · have hT := Ext.refl w34
          intro wd4 hEd4 hzd4
          replace hE := hE.trans hEd4
          replace hT := hT.trans hEd4
          replace hA := hA.ext hEd4
          replace hB3 := hB3.ext hEd4
          replace hB6 := hB6.ext hEd4
          replace hB34 := hB34.ext hEd4
          have hDd4 := (Lo.refl (by omega) : Lo w34.heap.size wd4 wd4)
          refine PT_q rfl rfl (fun wq hq => ev_fieldAddr fo31_2 rfl) ?_
          refine PT_q rfl rfl (fun wq hq => ev_load one23 rfl ((hB3.lo hq.1 (by omega)).cell rfl)) ?_
          refine PT_q rfl rfl (fun wq hq => ev_move rfl) ?_
          refine PT_q rfl rfl (fun wq hq => ev_indexAddr Try.underlying23 sz3 rfl rfl (hA.inputs.isSome (by omega)) (by omega) (by omega)) ?_
          refine PT_q rfl rfl (fun wq hq => ev_load one3 rfl ((hA.inputs.lo hq.1 (by omega)).cellJ (i := v.toNat) (j := v.toNat) (by omega) (by omega))) ?_
          refine PT_c ?_ ?_ ?_
          · refine PA_m w34.heap.size rfl rfl (ev_make Try.underlying29 el56 rfl rfl rfl (by omega) (by omega) (by omega)) ?_
            rintro _ w35 ⟨rfl, hN35⟩
            have hz35 := hN35.size
            replace hE := hE.trans hN35.ext
            replace hT := hT.trans hN35.ext
            replace hDd4 := hDd4.trans hN35.ext
            replace hA := hA.ext hN35.ext
            replace hB3 := hB3.ext hN35.ext
            replace hB6 := hB6.ext hN35.ext
            replace hB34 := hB34.ext hN35.ext
            have hB35 := hN35.blk
            refine ⟨by omega, fun _ hx => ⟨hDd4.lo hx (by omega), trivial⟩, ?_⟩
            have hDd4 := (Lo.refl (by omega) : Lo w34.heap.size w35 w35)
            refine PT_b ?_ ?_
            · refine PA_m w34.heap.size rfl rfl (ev_lit1 Try.underlying23 el3 (by decide) (by decide) rfl rfl) ?_
              rintro _ w41 ⟨rfl, hN41⟩
              have hz41 := hN41.size
              replace hE := hE.trans hN41.ext
              replace hT := hT.trans hN41.ext
              replace hDd4 := hDd4.trans hN41.ext
              replace hA := hA.ext hN41.ext
              replace hB3 := hB3.ext hN41.ext
              replace hB6 := hB6.ext hN41.ext
              replace hB34 := hB34.ext hN41.ext
              replace hB35 := hB35.ext hN41.ext
              have hB41 := hN41.blk
              refine ⟨by omega, fun _ hx => ⟨hDd4.lo hx (by omega), trivial⟩, ?_⟩
              have hDd4 := (Lo.refl (by omega) : Lo w34.heap.size w41 w41)
              refine PT_q rfl rfl (fun wq hq => ev_buildP2 sn31_3 zr31 rfl rfl rfl rfl rfl rfl) ?_
              refine PT_a ?_
              refine PA_m w34.heap.size rfl rfl (ev_alloc zr31) ?_
              rintro _ w9 ⟨rfl, hN9⟩
              have hz9 := hN9.size
              replace hE := hE.trans hN9.ext
              replace hT := hT.trans hN9.ext
              replace hDd4 := hDd4.trans hN9.ext
              replace hA := hA.ext hN9.ext
              replace hB3 := hB3.ext hN9.ext
              replace hB6 := hB6.ext hN9.ext
              replace hB34 := hB34.ext hN9.ext
              replace hB35 := hB35.ext hN9.ext
              replace hB41 := hB41.ext hN9.ext
              have hB9 : Blk w9 _ _ [_, _, _] := hN9.blk
              refine ⟨by omega, fun _ hx => ⟨hDd4.lo hx (by omega), trivial⟩, ?_⟩
              have hDd4 := (Lo.refl (by omega) : Lo w34.heap.size w9 w9)
              refine PT_a ?_
              refine PA_s w34.heap.size rfl (ev_stores sz31 rfl rfl rfl (by simp [Value.oneCell']) hB9 (by simp)) ?_
              rintro _ w4_9 hS4_9
              have hz4_9 := hS4_9.size
              replace hE := hE.sto hS4_9 (by omega)
              replace hT := hT.sto hS4_9 (by omega)
              replace hDd4 := hDd4.sto hS4_9 (by omega)
              replace hA := hA.sto hS4_9 (by omega)
              replace hB3 := hB3.sto hS4_9 (by omega)
              replace hB6 := hB6.sto hS4_9 (by omega)
              replace hB34 := hB34.sto hS4_9 (by omega)
              replace hB35 := hB35.sto hS4_9 (by omega)
              replace hB41 := hB41.sto hS4_9 (by omega)
              replace hB9 : Blk w4_9 _ _ [_, _, _] := hS4_9.blk
              refine ⟨by omega, fun _ hx => ⟨hDd4.lo hx (by omega), trivial⟩, ?_⟩
              have hDd4 := (Lo.refl (by omega) : Lo w34.heap.size w4_9 w4_9)
              exact PT_nil 9 ⟨hB9.num, hB35.num, hB41.num⟩ rfl ⟨rfl, trivial⟩ rfl ⟨⟨(by (try dsimp only [Blk.num]); omega), (by (try dsimp only [Blk.num]); omega), (by (try dsimp only [Blk.num]); omega), (by (try dsimp only [Blk.num]); omega), (by (try dsimp only [Blk.num]); omega), (by (try dsimp only [Blk.num]); omega), (by (try dsimp only [Blk.num]); omega), (by (try dsimp only [Blk.num]); omega), (by (try dsimp only [Blk.num]); omega)⟩, hB9, hB35, hB41, hT⟩
            · refine PA_m w34.heap.size rfl rfl (ev_alloc zr31) ?_
              rintro _ w9 ⟨rfl, hN9⟩
              have hz9 := hN9.size
              replace hE := hE.trans hN9.ext
              replace hT := hT.trans hN9.ext
              replace hDd4 := hDd4.trans hN9.ext
              replace hA := hA.ext hN9.ext
              replace hB3 := hB3.ext hN9.ext
              replace hB6 := hB6.ext hN9.ext
              replace hB34 := hB34.ext hN9.ext
              replace hB35 := hB35.ext hN9.ext
              have hB9 : Blk w9 _ _ [_, _, _] := hN9.blk
              refine ⟨by omega, fun _ hx => ⟨hDd4.lo hx (by omega), trivial⟩, ?_⟩
              have hDd4 := (Lo.refl (by omega) : Lo w34.heap.size w9 w9)
              refine PT_a ?_
              refine PA_m w34.heap.size rfl rfl (ev_lit1 Try.underlying23 el3 (by decide) (by decide) rfl rfl) ?_
              rintro _ w41 ⟨rfl, hN41⟩
              have hz41 := hN41.size
              replace hE := hE.trans hN41.ext
              replace hT := hT.trans hN41.ext
              replace hDd4 := hDd4.trans hN41.ext
              replace hA := hA.ext hN41.ext
              replace hB3 := hB3.ext hN41.ext
              replace hB6 := hB6.ext hN41.ext
              replace hB34 := hB34.ext hN41.ext
              replace hB35 := hB35.ext hN41.ext
              replace hB9 := hB9.ext hN41.ext
              have hB41 := hN41.blk
              refine ⟨by omega, fun _ hx => ⟨hDd4.lo hx (by omega), trivial⟩, ?_⟩
              have hDd4 := (Lo.refl (by omega) : Lo w34.heap.size w41 w41)
              refine PT_q rfl rfl (fun wq hq => ev_buildP2 sn31_3 zr31 rfl rfl rfl rfl rfl rfl) ?_
              refine PT_a ?_
              refine PA_s w34.heap.size rfl (ev_stores sz31 rfl rfl rfl (by simp [Value.oneCell']) hB9 (by simp)) ?_
              rintro _ w4_9 hS4_9
              have hz4_9 := hS4_9.size
              replace hE := hE.sto hS4_9 (by omega)
              replace hT := hT.sto hS4_9 (by omega)
              replace hDd4 := hDd4.sto hS4_9 (by omega)
              replace hA := hA.sto hS4_9 (by omega)
              replace hB3 := hB3.sto hS4_9 (by omega)
              replace hB6 := hB6.sto hS4_9 (by omega)
              replace hB34 := hB34.sto hS4_9 (by omega)
              replace hB35 := hB35.sto hS4_9 (by omega)
              replace hB41 := hB41.sto hS4_9 (by omega)
              replace hB9 : Blk w4_9 _ _ [_, _, _] := hS4_9.blk
              refine ⟨by omega, fun _ hx => ⟨hDd4.lo hx (by omega), trivial⟩, ?_⟩
              have hDd4 := (Lo.refl (by omega) : Lo w34.heap.size w4_9 w4_9)
              exact PT_nil 9 ⟨hB9.num, hB35.num, hB41.num⟩ rfl ⟨rfl, trivial⟩ rfl ⟨⟨(by (try dsimp only [Blk.num]); omega), (by (try dsimp only [Blk.num]); omega), (by (try dsimp only [Blk.num]); omega), (by (try dsimp only [Blk.num]); omega), (by (try dsimp only [Blk.num]); omega), (by (try dsimp only [Blk.num]); omega), (by (try dsimp only [Blk.num]); omega), (by (try dsimp only [Blk.num]); omega), (by (try dsimp only [Blk.num]); omega)⟩, hB9, hB35, hB41, hT⟩
          · refine PA_m w34.heap.size rfl rfl (ev_lit1 Try.underlying23 el3 (by decide) (by decide) rfl rfl) ?_
            rintro _ w41 ⟨rfl, hN41⟩
            have hz41 := hN41.size
            replace hE := hE.trans hN41.ext
            replace hT := hT.trans hN41.ext
            replace hDd4 := hDd4.trans hN41.ext
            replace hA := hA.ext hN41.ext
            replace hB3 := hB3.ext hN41.ext
            replace hB6 := hB6.ext hN41.ext
            replace hB34 := hB34.ext hN41.ext
            have hB41 := hN41.blk
            refine ⟨by omega, fun _ hx => ⟨hDd4.lo hx (by omega), trivial⟩, ?_⟩
            have hDd4 := (Lo.refl (by omega) : Lo w34.heap.size w41 w41)
            refine PT_b ?_ ?_
            · refine PA_m w34.heap.size rfl rfl (ev_make Try.underlying29 el56 rfl rfl rfl (by omega) (by omega) (by omega)) ?_
              rintro _ w35 ⟨rfl, hN35⟩
              have hz35 := hN35.size
              replace hE := hE.trans hN35.ext
              replace hT := hT.trans hN35.ext
              replace hDd4 := hDd4.trans hN35.ext
              replace hA := hA.ext hN35.ext
              replace hB3 := hB3.ext hN35.ext
              replace hB6 := hB6.ext hN35.ext
              replace hB34 := hB34.ext hN35.ext
              replace hB41 := hB41.ext hN35.ext
              have hB35 := hN35.blk
              refine ⟨by omega, fun _ hx => ⟨hDd4.lo hx (by omega), trivial⟩, ?_⟩
              have hDd4 := (Lo.refl (by omega) : Lo w34.heap.size w35 w35)
              refine PT_q rfl rfl (fun wq hq => ev_buildP2 sn31_3 zr31 rfl rfl rfl rfl rfl rfl) ?_
              refine PT_a ?_
              refine PA_m w34.heap.size rfl rfl (ev_alloc zr31) ?_
              rintro _ w9 ⟨rfl, hN9⟩
              have hz9 := hN9.size
              replace hE := hE.trans hN9.ext
              replace hT := hT.trans hN9.ext
              replace hDd4 := hDd4.trans hN9.ext
              replace hA := hA.ext hN9.ext
              replace hB3 := hB3.ext hN9.ext
              replace hB6 := hB6.ext hN9.ext
              replace hB34 := hB34.ext hN9.ext
              replace hB41 := hB41.ext hN9.ext
              replace hB35 := hB35.ext hN9.ext
              have hB9 : Blk w9 _ _ [_, _, _] := hN9.blk
              refine ⟨by omega, fun _ hx => ⟨hDd4.lo hx (by omega), trivial⟩, ?_⟩
              have hDd4 := (Lo.refl (by omega) : Lo w34.heap.size w9 w9)
              refine PT_a ?_
              refine PA_s w34.heap.size rfl (ev_stores sz31 rfl rfl rfl (by simp [Value.oneCell']) hB9 (by simp)) ?_
              rintro _ w4_9 hS4_9
              have hz4_9 := hS4_9.size
              replace hE := hE.sto hS4_9 (by omega)
              replace hT := hT.sto hS4_9 (by omega)
              replace hDd4 := hDd4.sto hS4_9 (by omega)
              replace hA := hA.sto hS4_9 (by omega)
              replace hB3 := hB3.sto hS4_9 (by omega)
              replace hB6 := hB6.sto hS4_9 (by omega)
              replace hB34 := hB34.sto hS4_9 (by omega)
              replace hB41 := hB41.sto hS4_9 (by omega)
              replace hB35 := hB35.sto hS4_9 (by omega)
              replace hB9 : Blk w4_9 _ _ [_, _, _] := hS4_9.blk
              refine ⟨by omega, fun _ hx => ⟨hDd4.lo hx (by omega), trivial⟩, ?_⟩
              have hDd4 := (Lo.refl (by omega) : Lo w34.heap.size w4_9 w4_9)
              exact PT_nil 9 ⟨hB9.num, hB35.num, hB41.num⟩ rfl ⟨rfl, trivial⟩ rfl ⟨⟨(by (try dsimp only [Blk.num]); omega), (by (try dsimp only [Blk.num]); omega), (by (try dsimp only [Blk.num]); omega), (by (try dsimp only [Blk.num]); omega), (by (try dsimp only [Blk.num]); omega), (by (try dsimp only [Blk.num]); omega), (by (try dsimp only [Blk.num]); omega), (by (try dsimp only [Blk.num]); omega), (by (try dsimp only [Blk.num]); omega)⟩, hB9, hB35, hB41, hT⟩
            · refine PA_m w34.heap.size rfl rfl (ev_alloc zr31) ?_
              rintro _ w9 ⟨rfl, hN9⟩
              have hz9 := hN9.size
              replace hE := hE.trans hN9.ext
              replace hT := hT.trans hN9.ext
              replace hDd4 := hDd4.trans hN9.ext
              replace hA := hA.ext hN9.ext
              replace hB3 := hB3.ext hN9.ext
              replace hB6 := hB6.ext hN9.ext
              replace hB34 := hB34.ext hN9.ext
              replace hB41 := hB41.ext hN9.ext
              have hB9 : Blk w9 _ _ [_, _, _] := hN9.blk
              refine ⟨by omega, fun _ hx => ⟨hDd4.lo hx (by omega), trivial⟩, ?_⟩
              have hDd4 := (Lo.refl (by omega) : Lo w34.heap.size w9 w9)
              refine PT_a ?_
              refine PA_m w34.heap.size rfl rfl (ev_make Try.underlying29 el56 rfl rfl rfl (by omega) (by omega) (by omega)) ?_
              rintro _ w35 ⟨rfl, hN35⟩
              have hz35 := hN35.size
              replace hE := hE.trans hN35.ext
              replace hT := hT.trans hN35.ext
              replace hDd4 := hDd4.trans hN35.ext
              replace hA := hA.ext hN35.ext
              replace hB3 := hB3.ext hN35.ext
              replace hB6 := hB6.ext hN35.ext
              replace hB34 := hB34.ext hN35.ext
              replace hB41 := hB41.ext hN35.ext
              replace hB9 := hB9.ext hN35.ext
              have hB35 := hN35.blk
              refine ⟨by omega, fun _ hx => ⟨hDd4.lo hx (by omega), trivial⟩, ?_⟩
              have hDd4 := (Lo.refl (by omega) : Lo w34.heap.size w35 w35)
              refine PT_q rfl rfl (fun wq hq => ev_buildP2 sn31_3 zr31 rfl rfl rfl rfl rfl rfl) ?_
              refine PT_a ?_
              refine PA_s w34.heap.size rfl (ev_stores sz31 rfl rfl rfl (by simp [Value.oneCell']) hB9 (by simp)) ?_
              rintro _ w4_9 hS4_9
              have hz4_9 := hS4_9.size
              replace hE := hE.sto hS4_9 (by omega)
              replace hT := hT.sto hS4_9 (by omega)
              replace hDd4 := hDd4.sto hS4_9 (by omega)
              replace hA := hA.sto hS4_9 (by omega)
              replace hB3 := hB3.sto hS4_9 (by omega)
              replace hB6 := hB6.sto hS4_9 (by omega)
              replace hB34 := hB34.sto hS4_9 (by omega)
              replace hB41 := hB41.sto hS4_9 (by omega)
              replace hB35 := hB35.sto hS4_9 (by omega)
              replace hB9 : Blk w4_9 _ _ [_, _, _] := hS4_9.blk
              refine ⟨by omega, fun _ hx => ⟨hDd4.lo hx (by omega), trivial⟩, ?_⟩
              have hDd4 := (Lo.refl (by omega) : Lo w34.heap.size w4_9 w4_9)
              exact PT_nil 9 ⟨hB9.num, hB35.num, hB41.num⟩ rfl ⟨rfl, trivial⟩ rfl ⟨⟨(by (try dsimp only [Blk.num]); omega), (by (try dsimp only [Blk.num]); omega), (by (try dsimp only [Blk.num]); omega), (by (try dsimp only [Blk.num]); omega), (by (try dsimp only [Blk.num]); omega), (by (try dsimp only [Blk.num]); omega), (by (try dsimp only [Blk.num]); omega), (by (try dsimp only [Blk.num]); omega), (by (try dsimp only [Blk.num]); omega)⟩, hB9, hB35, hB41, hT⟩
          · refine PA_m w34.heap.size rfl rfl (ev_alloc zr31) ?_
            rintro _ w9 ⟨rfl, hN9⟩
            have hz9 := hN9.size
            replace hE := hE.trans hN9.ext
            replace hT := hT.trans hN9.ext
            replace hDd4 := hDd4.trans hN9.ext
            replace hA := hA.ext hN9.ext
            replace hB3 := hB3.ext hN9.ext
            replace hB6 := hB6.ext hN9.ext
            replace hB34 := hB34.ext hN9.ext
            have hB9 : Blk w9 _ _ [_, _, _] := hN9.blk
            refine ⟨by omega, fun _ hx => ⟨hDd4.lo hx (by omega), trivial⟩, ?_⟩
            have hDd4 := (Lo.refl (by omega) : Lo w34.heap.size w9 w9)
            refine PT_b ?_ ?_
            · refine PA_m w34.heap.size rfl rfl (ev_make Try.underlying29 el56 rfl rfl rfl (by omega) (by omega) (by omega)) ?_
              rintro _ w35 ⟨rfl, hN35⟩
              have hz35 := hN35.size
              replace hE := hE.trans hN35.ext
              replace hT := hT.trans hN35.ext
              replace hDd4 := hDd4.trans hN35.ext
              replace hA := hA.ext hN35.ext
              replace hB3 := hB3.ext hN35.ext
              replace hB6 := hB6.ext hN35.ext
              replace hB34 := hB34.ext hN35.ext
              replace hB9 := hB9.ext hN35.ext
              have hB35 := hN35.blk
              refine ⟨by omega, fun _ hx => ⟨hDd4.lo hx (by omega), trivial⟩, ?_⟩
              have hDd4 := (Lo.refl (by omega) : Lo w34.heap.size w35 w35)
              refine PT_a ?_
              refine PA_m w34.heap.size rfl rfl (ev_lit1 Try.underlying23 el3 (by decide) (by decide) rfl rfl) ?_
              rintro _ w41 ⟨rfl, hN41⟩
              have hz41 := hN41.size
              replace hE := hE.trans hN41.ext
              replace hT := hT.trans hN41.ext
              replace hDd4 := hDd4.trans hN41.ext
              replace hA := hA.ext hN41.ext
              replace hB3 := hB3.ext hN41.ext
              replace hB6 := hB6.ext hN41.ext
              replace hB34 := hB34.ext hN41.ext
              replace hB9 := hB9.ext hN41.ext
              replace hB35 := hB35.ext hN41.ext
              have hB41 := hN41.blk
              refine ⟨by omega, fun _ hx => ⟨hDd4.lo hx (by omega), trivial⟩, ?_⟩
              have hDd4 := (Lo.refl (by omega) : Lo w34.heap.size w41 w41)
              refine PT_q rfl rfl (fun wq hq => ev_buildP2 sn31_3 zr31 rfl rfl rfl rfl rfl rfl) ?_
              refine PT_a ?_
              refine PA_s w34.heap.size rfl (ev_stores sz31 rfl rfl rfl (by simp [Value.oneCell']) hB9 (by simp)) ?_
              rintro _ w4_9 hS4_9
              have hz4_9 := hS4_9.size
              replace hE := hE.sto hS4_9 (by omega)
              replace hT := hT.sto hS4_9 (by omega)
              replace hDd4 := hDd4.sto hS4_9 (by omega)
              replace hA := hA.sto hS4_9 (by omega)
              replace hB3 := hB3.sto hS4_9 (by omega)
              replace hB6 := hB6.sto hS4_9 (by omega)
              replace hB34 := hB34.sto hS4_9 (by omega)
              replace hB35 := hB35.sto hS4_9 (by omega)
              replace hB41 := hB41.sto hS4_9 (by omega)
              replace hB9 : Blk w4_9 _ _ [_, _, _] := hS4_9.blk
              refine ⟨by omega, fun _ hx => ⟨hDd4.lo hx (by omega), trivial⟩, ?_⟩
              have hDd4 := (Lo.refl (by omega) : Lo w34.heap.size w4_9 w4_9)
              exact PT_nil 9 ⟨hB9.num, hB35.num, hB41.num⟩ rfl ⟨rfl, trivial⟩ rfl ⟨⟨(by (try dsimp only [Blk.num]); omega), (by (try dsimp only [Blk.num]); omega), (by (try dsimp only [Blk.num]); omega), (by (try dsimp only [Blk.num]); omega), (by (try dsimp only [Blk.num]); omega), (by (try dsimp only [Blk.num]); omega), (by (try dsimp only [Blk.num]); omega), (by (try dsimp only [Blk.num]); omega), (by (try dsimp only [Blk.num]); omega)⟩, hB9, hB35, hB41, hT⟩
            · refine PA_m w34.heap.size rfl rfl (ev_lit1 Try.underlying23 el3 (by decide) (by decide) rfl rfl) ?_
              rintro _ w41 ⟨rfl, hN41⟩
              have hz41 := hN41.size
              replace hE := hE.trans hN41.ext
              replace hT := hT.trans hN41.ext
              replace hDd4 := hDd4.trans hN41.ext
              replace hA := hA.ext hN41.ext
              replace hB3 := hB3.ext hN41.ext
              replace hB6 := hB6.ext hN41.ext
              replace hB34 := hB34.ext hN41.ext
              replace hB9 := hB9.ext hN41.ext
              have hB41 := hN41.blk
              refine ⟨by omega, fun _ hx => ⟨hDd4.lo hx (by omega), trivial⟩, ?_⟩
              have hDd4 := (Lo.refl (by omega) : Lo w34.heap.size w41 w41)
              refine PT_a ?_
              refine PA_m w34.heap.size rfl rfl (ev_make Try.underlying29 el56 rfl rfl rfl (by omega) (by omega) (by omega)) ?_
              rintro _ w35 ⟨rfl, hN35⟩
              have hz35 := hN35.size
              replace hE := hE.trans hN35.ext
              replace hT := hT.trans hN35.ext
              replace hDd4 := hDd4.trans hN35.ext
              replace hA := hA.ext hN35.ext
              replace hB3 := hB3.ext hN35.ext
              replace hB6 := hB6.ext hN35.ext
              replace hB34 := hB34.ext hN35.ext
              replace hB9 := hB9.ext hN35.ext
              replace hB41 := hB41.ext hN35.ext
              have hB35 := hN35.blk
              refine ⟨by omega, fun _ hx => ⟨hDd4.lo hx (by omega), trivial⟩, ?_⟩
              have hDd4 := (Lo.refl (by omega) : Lo w34.heap.size w35 w35)
              refine PT_q rfl rfl (fun wq hq => ev_buildP2 sn31_3 zr31 rfl rfl rfl rfl rfl rfl) ?_
              refine PT_a ?_
              refine PA_s w34.heap.size rfl (ev_stores sz31 rfl rfl rfl (by simp [Value.oneCell']) hB9 (by simp)) ?_
              rintro _ w4_9 hS4_9
              have hz4_9 := hS4_9.size
              replace hE := hE.sto hS4_9 (by omega)
              replace hT := hT.sto hS4_9 (by omega)
              replace hDd4 := hDd4.sto hS4_9 (by omega)
              replace hA := hA.sto hS4_9 (by omega)
              replace hB3 := hB3.sto hS4_9 (by omega)
              replace hB6 := hB6.sto hS4_9 (by omega)
              replace hB34 := hB34.sto hS4_9 (by omega)
              replace hB41 := hB41.sto hS4_9 (by omega)
              replace hB35 := hB35.sto hS4_9 (by omega)
              replace hB9 : Blk w4_9 _ _ [_, _, _] := hS4_9.blk
              refine ⟨by omega, fun _ hx => ⟨hDd4.lo hx (by omega), trivial⟩, ?_⟩
              have hDd4 := (Lo.refl (by omega) : Lo w34.heap.size w4_9 w4_9)
              exact PT_nil 9 ⟨hB9.num, hB35.num, hB41.num⟩ rfl ⟨rfl, trivial⟩ rfl ⟨⟨(by (try dsimp only [Blk.num]); omega), (by (try dsimp only [Blk.num]); omega), (by (try dsimp only [Blk.num]); omega), (by (try dsimp only [Blk.num]); omega), (by (try dsimp only [Blk.num]); omega), (by (try dsimp only [Blk.num]); omega), (by (try dsimp only [Blk.num]); omega), (by (try dsimp only [Blk.num]); omega), (by (try dsimp only [Blk.num]); omega)⟩, hB9, hB35, hB41, hT⟩
        rintro ⟨b9, b35, b41⟩ wt4 ⟨⟨hb1, hb2, hb3, hb4, hb5, hb6, hb7, hb8, hb9⟩, hB9, hB35, hB41, hT⟩
        dsimp only [List.cons_append, List.nil_append]
        dsimp only at hb1 hb2 hb3 hb4 hb5 hb6 hb7 hb8 hb9 hB9 hB35 hB41
        replace hE := hE.trans hT
        replace hA := hA.ext hT
        replace hB3 := hB3.ext hT
        replace hB6 := hB6.ext hT
        replace hB34 := hB34.ext hT
        have hT4 := UT.mk' (l := w23.heap.size) (r := wt4.heap.size) (s := wt4.heap.size) (b := b9) (E := 61) (v := v) hB35 hB41 hB34 ⟨⟨by omega, by omega, by omega, by omega, by omega⟩, by omega, by omega, by omega, by omega, by omega, by omega, by omega⟩
        refine thenE_n ?_
        refine W_join (G := List (Option Addr × Nat)) [(2, _), (3, _), (6, _), (8, _), (9, _)] ((Subs.c rfl (Subs.c rfl (Subs.c rfl (Subs.c rfl (Subs.c rfl Subs.n)))))) (fun vs0 => []) (fun vs0 w' => Lo (w23.heap.size) wt4 w' ∧ UT w23.heap.size w'.heap.size w'.heap.size b9 b9 b9 w' 61 56 3 77 [rootW v] (some ⟨w23.heap.size, 0, none⟩) 1 vs0 ⟨some ⟨b35, 0, none⟩, 1, none, 0, some ⟨b41, 0, none⟩, 1⟩ ⟨RI A.ends d [rootW v], [], [inpW A (rootW v)]⟩ ∧ Blk w' b9 31 [.slice (some ⟨b35, 0, none⟩) 1 1, .slice none 0 0, .slice (some ⟨b41, 0, none⟩) 1 1]) ?_ ?_
        · have hRJ44 : Lo (w23.heap.size) wt4 wt4 := Lo.refl (by omega)
          refine W_seq ?_
          refine W_region ?_
          refine WL_q rfl (ev_move rfl) ?_
          refine WL_q rfl (ev_gtr rfl rfl) ?_
          refine WL_nil ?_
          refine thenE_n ?_
          refine W_cond rfl (fun hg44 => ?_) (fun hg44 => ?_)
          · have hp44 := of_decide_eq_true hg44
            refine W_drawZ 10 wt4.heap.size wt4.heap.size 0 0 (fun w' => True) [(0, true), (1, true), (2, true), (3, true), (4, true), (5, true), (6, true), (7, true), (8, false), (9, true), (10, false)] mixed (by kernel_rfl) rfl (by kernel_rfl) (fun _ _ => trivial) ?_
            intro wd6 hEd6 hzd6
            replace hE := hE.trans hEd6
            replace hRJ44 := hRJ44.trans hEd6
            replace hA := hA.ext hEd6
            replace hB3 := hB3.ext hEd6
            replace hB6 := hB6.ext hEd6
            replace hB34 := hB34.ext hEd6
            replace hB9 := hB9.ext hEd6
            replace hB35 := hB35.ext hEd6
            replace hB41 := hB41.ext hEd6
            have hDd6 := (Rg.refl : Rg wt4.heap.size wt4.heap.size 0 0 wd6 wd6)
            refine PZ_q rfl rfl rfl (fun wq hq => ev_fieldAddr fo31_0 rfl) ?_
            refine PZ_q rfl rfl rfl (fun wq hq => ev_load one29 rfl ((hB9.rg hq.1 (by omega)).cell rfl)) ?_
            refine PZ_q rfl rfl rfl (fun wq hq => ev_fieldAddr fo31_0 rfl) ?_
            refine PZ_q rfl rfl rfl (fun wq hq => ev_load one29 rfl ((hB3.rg hq.1 (by omega)).cell rfl)) ?_
            refine PZ_q rfl rfl rfl (fun wq hq => ev_move rfl) ?_
            have hl50 : v.toNat < A.ends.length := by omega
            have ht50 := totL_le hl50
            obtain ⟨a50, c50, hc50, hr50⟩ := hA.ends.row hl50
            refine PZ_q rfl rfl rfl (fun wq hq => ev_indexAddr Try.underlying29 sz56 rfl rfl (hA.ends.isSome (by omega)) (by omega) (by omega)) ?_
            refine PZ_q rfl rfl rfl (fun wq hq => ev_load one56 rfl (hq.1.cell' hc50 (by have := hA.ends.rng (Nat.lt_of_le_of_lt (Nat.zero_le _) hl50); omega))) ?_
            refine PZ_q rfl rfl rfl (fun wq hq => ev_len Try.underlying56 rfl) ?_
            refine PZ_m rfl rfl rfl (ev_make2N Try.underlying56 el61 rfl rfl (by omega) (by omega)) ?_
            rintro _ w53 ⟨rfl, hN53⟩
            have hz53 := hN53.size
            replace hE := hE.trans hN53.ext
            replace hRJ44 := hRJ44.trans hN53.ext
            replace hDd6 := hDd6.trans hN53.ext
            have hB53 := hN53.blk
            have hOn := Own.of_new (n := A.ends[v.toNat].length) (sz := 2) hN53 (by simp) (by unfold maxLen; omega)
            have hEx := hEd6.trans hN53.ext
            refine ⟨⟨hDd6, trivial⟩, ?_⟩
            refine PZ_q rfl rfl rfl (fun wq hq => ev_indexAddr Try.underlying29 sz56 rfl rfl rfl (by omega) (by omega)) ?_
            replace hA := hA.rg hDd6 (by omega)
            replace hB3 := hB3.rg hDd6 (by omega)
            replace hB6 := hB6.rg hDd6 (by omega)
            replace hB34 := hB34.rg hDd6 (by omega)
            replace hB9 := hB9.rg hDd6 (by omega)
            replace hB35 := hB35.rg hDd6 (by omega)
            replace hB41 := hB41.rg hDd6 (by omega)
            replace hr50 := hr50.rg hDd6 (by omega)
            refine PZ_z rfl (ev_store sz56 rfl rfl rfl hB35 (by simp)) ?_
            rintro _ w6_10 hS6_10
            have hz6_10 := hS6_10.size
            replace hE := hE.sto hS6_10 (by omega)
            replace hRJ44 := hRJ44.sto hS6_10 (by omega)
            replace hA := hA.sto hS6_10 (by omega)
            replace hB3 := hB3.sto hS6_10 (by omega)
            replace hB6 := hB6.sto hS6_10 (by omega)
            replace hB34 := hB34.sto hS6_10 (by omega)
            replace hB9 := hB9.sto hS6_10 (by omega)
            replace hB41 := hB41.sto hS6_10 (by omega)
            replace hr50 := hr50.sto hS6_10 (by omega)
            replace hB35 := hS6_10.blk
            have hR6 := hT4.root (n := A.ends[v.toNat].length) hEx (b := wd6.heap.size) (by rw [← pc_zeros9]; exact hOn.mono (by omega)) (by omega) ⟨Nat.le_refl _, Nat.le_refl _⟩ ⟨by omega, by omega, by omega⟩ hS6_10 (by simpa using hB35)
            refine PW_nil ?_
            refine thenE_n ?_
            exact ⟨[(some ⟨wd6.heap.size, 0, none⟩, A.ends[v.toNat].length)], (Subs.c rfl (Subs.c rfl (Subs.c rfl (Subs.c rfl (Subs.c rfl Subs.n))))), Subs.n, ⟨hRJ44, ⟨by rw [root_row hv2 (by omega), hin0]; exact hR6.up (Nat.le_refl _) (by omega), hB9⟩⟩⟩
          · have hp44 := of_decide_eq_false hg44
            refine W_skip ?_
            refine thenE_n ?_
            exact ⟨[(none, 0)], (Subs.c rfl (Subs.c rfl (Subs.c rfl (Subs.c rfl (Subs.c rfl Subs.n))))), Subs.n, ⟨hRJ44, ⟨by rw [root_nil (by omega), hin0]; exact hT4, hB9⟩⟩⟩
        · rintro vs0 wJ44 ⟨hEJ44, hT, hB9⟩
          have hzJ44 := hEJ44.size
          replace hA := hA.lo hEJ44 (by omega)
          replace hB3 := hB3.lo hEJ44 (by omega)
          replace hB6 := hB6.lo hEJ44 (by omega)
          replace hE := hE.lo hEJ44 (by omega)
          refine W_seq ?_
          refine W_seq ?_
          refine W_region ?_
          refine WL_q rfl (ev_assign rfl) ?_
          refine WL_nil ?_
          refine thenE_n ?_
          refine W_block ?_
          refine W_loopC (G := Nat × Option Addr × Nat × List (Option Addr × Nat) × Option Addr × Nat × Option Addr × Nat) [(2, _), (3, _), (6, _), (9, _)] ((Subs.c rfl (Subs.c rfl (Subs.c rfl (Subs.c rfl Subs.n))))) (fun ⟨i, aw, cw, vs, a1, c1, a3, c3⟩ => [(8, .slice aw (uN A.ends v d i).length cw), (10, VI (i : Int))]) (fun ⟨i, aw, cw, vs, a1, c1, a3, c3⟩ w' => Lo (w23.heap.size) wJ44 w' ∧ i ≤ (uN A.ends v d i).length ∧ (uN A.ends v d i).length ≤ 40 ∧ UT w23.heap.size w'.heap.size w'.heap.size b9 b9 b9 w' 61 56 3 77 (uN A.ends v d i) aw cw vs ⟨a1, c1, none, 0, a3, c3⟩ ⟨RI A.ends d (uN A.ends v d i), [], (uN A.ends v d i).map (inpW A)⟩ ∧ Blk w' b9 31 [.slice a1 (RI A.ends d (uN A.ends v d i)).length c1, .slice none 0 0, .slice a3 ((uN A.ends v d i).map (inpW A)).length c3]) (fun g => 41 - g.1) (0, some ⟨w23.heap.size, 0, none⟩, 1, vs0, some ⟨b35, 0, none⟩, 1, some ⟨b41, 0, none⟩, 1) ((Subs.c rfl (Subs.c (lkI rfl (by omega)) Subs.n))) (⟨Lo.refl (by omega), ⟨Nat.zero_le _, by rw [uN_zero]; simp, hT, by rw [RI_len]; exact hB9⟩⟩) ?_
          rintro ⟨i, aw, cw, vs, a1, c1, a3, c3⟩ wL0 ⟨hRL0, hi', h40, hT, hB9⟩
          have hzL0 := hRL0.size
          replace hA := hA.lo hRL0 (by omega)
          replace hB3 := hB3.lo hRL0 (by omega)
          replace hB6 := hB6.lo hRL0 (by omega)
          replace hE := hE.lo hRL0 (by omega)
          have hRl : (RI A.ends d (uN A.ends v d i)).length = (uN A.ends v d i).length := RI_len
          refine W_seq ?_
          refine W_seq ?_
          refine W_region ?_
          refine WL_q rfl (ev_move rfl) ?_
          refine WL_q rfl (ev_move rfl) ?_
          refine WL_q rfl (ev_len Try.underlying78 rfl) ?_
          refine WL_q rfl (ev_lss rfl rfl) ?_
          refine WL_nil ?_
          refine thenE_n ?_
          refine W_cond rfl (fun hg58 => ?_) (fun hg58 => ?_)
          · have hp58 := of_decide_eq_true hg58
            refine W_skip ?_
            refine thenE_n ?_
            refine W_seq ?_
            refine W_block ?_
            refine W_seq ?_
            refine W_region ?_
            refine WL_q rfl (ev_move rfl) ?_
            refine WL_q rfl (ev_move rfl) ?_
            have hilt : i < (uN A.ends v d i).length := by omega
            obtain ⟨z, hz⟩ : ∃ z, (uN A.ends v d i)[i]? = some z := ⟨_, List.getElem?_eq_getElem hilt⟩
            have hWA := hT.wa
            have hUI := UI.runN hkA.endsOk hp23 hd1 i hi'
            obtain ⟨hz1, hz2, hz3, hz4⟩ := hUI.node i z hz
            refine WL_q rfl (ev_indexAddr Try.underlying78 sz77 rfl rfl (hWA.isSome (by omega)) (by omega) (by omega)) ?_
            refine WL_q rfl (ev_loads st77 sz77 rfl (hWA.at3 hz) rfl) ?_
            refine WL_m rfl (ev_alloc zr77) ?_
            rintro _ w11 ⟨rfl, hN11⟩
            have hz11 := hN11.size
            replace hE := hE.trans hN11.ext
            replace hRL0 := hRL0.trans hN11.ext
            replace hA := hA.ext hN11.ext
            replace hB3 := hB3.ext hN11.ext
            replace hB6 := hB6.ext hN11.ext
            replace hT := hT.ext hN11.ext
            replace hB9 := hB9.ext hN11.ext
            have hB11 : Blk w11 _ _ [_, _, _] := hN11.blk
            refine WL_s (ev_stores sz77 rfl rfl rfl (by simp [Value.oneCell']) hB11 (by simp)) ?_
            rintro _ w10_5 hS10_5
            have hz10_5 := hS10_5.size
            replace hE := hE.sto hS10_5 (by omega)
            replace hRL0 := hRL0.sto hS10_5 (by omega)
            replace hA := hA.sto hS10_5 (by omega)
            replace hB3 := hB3.sto hS10_5 (by omega)
            replace hB6 := hB6.sto hS10_5 (by omega)
            replace hT := hT.sto hS10_5 (by omega)
            replace hB9 := hB9.sto hS10_5 (by omega)
            replace hB11 : Blk w10_5 _ _ [_, _, _] := hS10_5.blk
            refine WL_nil ?_
            refine thenE_n ?_
            refine W_seq ?_
            refine W_seq ?_
            refine W_region ?_
            refine WL_q rfl (ev_fieldAddr fo77_2 rfl) ?_
            refine WL_q rfl (ev_load one3 rfl (hB11.cell rfl)) ?_
            refine WL_q rfl (ev_move rfl) ?_
            refine WL_q rfl (ev_eql rfl rfl) ?_
            refine WL_nil ?_
            refine thenE_n ?_
            refine W_cond rfl (fun hg68 => ?_) (fun hg68 => ?_)
            · have hp68 := of_decide_eq_true hg68
              refine W_exit ?_
              refine thenE_x ?_
              refine blockE_hit ?_
              refine thenE_n ?_
              refine W_region ?_
              refine WL_q rfl (ev_move rfl) ?_
              refine WL_q rfl (ev_add rfl rfl (by omega)) ?_
              refine WL_q rfl (ev_assign rfl) ?_
              refine WL_nil ?_
              refine thenE_n ?_
              have e9 := uN_leaf hz hp68
              exact ⟨(i + 1, aw, cw, vs, a1, c1, a3, c3), (Subs.c rfl (Subs.c rfl (Subs.c rfl (Subs.c rfl Subs.n)))), (Subs.c (lkS rfl (by rw [e9])) (Subs.c (lkI rfl (by omega)) Subs.n)), ⟨hRL0, ⟨by rw [e9]; omega, by rw [e9]; omega, by rw [e9]; exact hT.up (by omega) (by omega), by rw [e9]; exact hB9⟩⟩, by first | omega | (dsimp only; omega)⟩
            · have hp68 := of_decide_eq_false hg68
              refine W_skip ?_
              refine thenE_n ?_
              refine W_seq ?_
              refine W_region ?_
              refine WL_q rfl (ev_fieldAddr fo31_0 rfl) ?_
              refine WL_q rfl (ev_load one29 rfl (hB3.cell rfl)) ?_
              refine WL_q rfl (ev_fieldAddr fo77_0 rfl) ?_
              refine WL_q rfl (ev_load one3 rfl (hB11.cell rfl)) ?_
              have hl73 : z.x.toNat < A.ends.length := by omega
              have ht73 := totL_le hl73
              obtain ⟨a73, c73, hc73, hr73⟩ := hA.ends.row hl73
              refine WL_q rfl (ev_indexAddr Try.underlying29 sz56 rfl rfl (hA.ends.isSome (by omega)) (by omega) (by omega)) ?_
              refine WL_q rfl (ev_load one56 rfl (hc73)) ?_
              refine WL_q rfl (ev_len Try.underlying56 rfl) ?_
              refine WL_q rfl (ev_move rfl) ?_
              refine WL_nil ?_
              refine thenE_n ?_
              refine W_block ?_
              have ht9 : z.t < d := by omega
              refine W_loopC (G := Nat × Option Addr × Nat × List (Option Addr × Nat) × Option Addr × Nat × Option Addr × Nat) [(2, _), (3, _), (6, _), (9, _), (10, _), (11, _), (74, _), (75, _)] ((Subs.c rfl (Subs.c rfl (Subs.c rfl (Subs.c rfl (Subs.c rfl (Subs.c rfl (Subs.c rfl (Subs.c rfl Subs.n))))))))) (fun ⟨k, aw2, cw2, vs2, a12, c12, a32, c32⟩ => [(8, .slice aw2 (uK A.ends i z (uN A.ends v d i) k).length cw2), (76, VI (k : Int))]) (fun ⟨k, aw2, cw2, vs2, a12, c12, a32, c32⟩ w' => Rg w23.heap.size w10_5.heap.size wL0.heap.size (wL0.heap.size + 1) w10_5 w' ∧ k ≤ A.ends[z.x.toNat].length ∧ (uK A.ends i z (uN A.ends v d i) k).length ≤ 40 ∧ UT w23.heap.size w'.heap.size w'.heap.size b9 wL0.heap.size b9 w' 61 56 3 77 (uK A.ends i z (uN A.ends v d i) k) aw2 cw2 vs2 ⟨a12, c12, none, 0, a32, c32⟩ ⟨RI A.ends d (uK A.ends i z (uN A.ends v d i) k), [], (uK A.ends i z (uN A.ends v d i) k).map (inpW A)⟩ ∧ Blk w' b9 31 [.slice a12 (RI A.ends d (uK A.ends i z (uN A.ends v d i) k)).length c12, .slice none 0 0, .slice a32 ((uK A.ends i z (uN A.ends v d i) k).map (inpW A)).length c32]) (fun g => A.ends[z.x.toNat].length - g.1) (0, aw, cw, vs, a1, c1, a3, c3) ((Subs.c rfl (Subs.c (lkI rfl (by omega)) Subs.n))) (⟨Rg.refl, ⟨Nat.zero_le _, h40, (hT.re ⟨by omega, by omega⟩).up (by omega) (by omega), hB9⟩⟩) ?_
              rintro ⟨k, aw2, cw2, vs2, a12, c12, a32, c32⟩ wL2 ⟨hRL2, hk', h40k, hT, hB9⟩
              have hzL2 := hRL2.size
              replace hA := hA.rg hRL2 (by omega)
              replace hB3 := hB3.rg hRL2 (by omega)
              replace hB6 := hB6.rg hRL2 (by omega)
              replace hB11 := hB11.rg hRL2 (by omega)
              replace hr73 := hr73.rg hRL2 (by omega)
              replace hE := hE.rg hRL2 (by omega)
              replace hRL0 := hRL0.rg hRL2 (by omega)
              have hRk : (RI A.ends d (uK A.ends i z (uN A.ends v d i) k)).length = (uK A.ends i z (uN A.ends v d i) k).length := RI_len
              have hIk : ((uK A.ends i z (uN A.ends v d i) k).map (inpW A)).length = (uK A.ends i z (uN A.ends v d i) k).length := by simp
              refine W_seq ?_
              refine W_region ?_
              refine WL_q rfl (ev_lss rfl rfl) ?_
              refine WL_nil ?_
              refine thenE_n ?_
              refine W_seq ?_
              refine W_cond rfl (fun hg77 => ?_) (fun hg77 => ?_)
              · have hp77 := of_decide_eq_true hg77
                refine W_skip ?_
                refine thenE_n ?_
                refine W_seq ?_
                refine W_block ?_
                refine W_seq ?_
                refine W_region ?_
                refine WL_q rfl (ev_move rfl) ?_
                have hlk : k < A.ends[z.x.toNat].length := by omega
                obtain ⟨he1, he2, he3, he4, he5⟩ := hkA.endOk hl73 hlk
                have hlk2 : k < (rowE A.ends z.x).length := by rw [rowE_at hl73]; exact hlk
                have h6e := h6 _ (List.getElem_mem he2)
                have hwl : (uN A.ends v d i).length ≤ (uK A.ends i z (uN A.ends v d i) k).length := (uK_le (ends := A.ends) (i := i) (w := z) (W := (uN A.ends v d i)) (Nat.zero_le k)).length_le
                have hzk : (uK A.ends i z (uN A.ends v d i) k)[i]? = some z := by rw [uK_at hilt]; exact hz
                have hUk := hUI.runK hkA.endsOk hz ht9 k (by omega)
                have hirk : i < (RI A.ends d (uK A.ends i z (uN A.ends v d i) k)).length := by omega
                refine WL_q rfl (ev_indexAddr Try.underlying56 sz61 rfl rfl (hr73.isSome (by omega)) (by omega) (by omega)) ?_
                refine WL_q rfl (ev_loads st61 sz61 rfl (hr73.cells (i := k) (by omega)) rfl) ?_
                refine WL_m rfl (ev_alloc zr61) ?_
                rintro _ w13 ⟨rfl, hN13⟩
                have hz13 := hN13.size
                replace hE := hE.trans hN13.ext
                replace hRL0 := hRL0.trans hN13.ext
                replace hRL2 := hRL2.trans hN13.ext
                replace hA := hA.ext hN13.ext
                replace hB3 := hB3.ext hN13.ext
                replace hB6 := hB6.ext hN13.ext
                replace hB11 := hB11.ext hN13.ext
                replace hr73 := hr73.ext hN13.ext
                replace hT := hT.ext hN13.ext
                replace hB9 := hB9.ext hN13.ext
                have hB13 : Blk w13 _ _ [_, _] := hN13.blk
                refine WL_q rfl (ev_assign rfl) ?_
                refine WL_s (ev_stores sz61 rfl rfl rfl (by simp [Value.oneCell']) hB13 (by simp)) ?_
                rintro _ w14_5 hS14_5
                have hz14_5 := hS14_5.size
                replace hE := hE.sto hS14_5 (by omega)
                replace hRL0 := hRL0.sto hS14_5 (by omega)
                replace hRL2 := hRL2.sto hS14_5 (by omega)
                replace hA := hA.sto hS14_5 (by omega)
                replace hB3 := hB3.sto hS14_5 (by omega)
                replace hB6 := hB6.sto hS14_5 (by omega)
                replace hB11 := hB11.sto hS14_5 (by omega)
                replace hr73 := hr73.sto hS14_5 (by omega)
                replace hT := hT.sto hS14_5 (by omega)
                replace hB9 := hB9.sto hS14_5 (by omega)
                replace hB13 : Blk w14_5 _ _ [_, _] := hS14_5.blk
                refine WL_nil ?_
                refine thenE_n ?_
                refine W_seq ?_
                refine W_seq ?_
                refine W_region ?_
                refine WL_q rfl (ev_move rfl) ?_
                refine WL_q rfl (ev_fieldAddr fo77_1 rfl) ?_
                refine WL_q rfl (ev_load one3 rfl (hB11.cell rfl)) ?_
                refine WL_q rfl (ev_eql rfl rfl) ?_
                refine WL_nil ?_
                refine thenE_n ?_
                refine W_cond rfl (fun hg84 => ?_) (fun hg84 => ?_)
                · have hp84 := of_decide_eq_true hg84
                  refine W_exit ?_
                  refine thenE_x ?_
                  refine blockE_hit ?_
                  refine thenE_n ?_
                  refine W_region ?_
                  refine WL_q rfl (ev_add rfl rfl (by omega)) ?_
                  refine WL_q rfl (ev_move rfl) ?_
                  refine WL_nil ?_
                  refine thenE_n ?_
                  have e9 : (uK A.ends i z (uN A.ends v d i) (k + 1)) = (uK A.ends i z (uN A.ends v d i) k) := uK_skip hp84
                  exact ⟨(k + 1, aw2, cw2, vs2, a12, c12, a32, c32), (Subs.c rfl (Subs.c rfl (Subs.c rfl (Subs.c rfl (Subs.c rfl (Subs.c rfl (Subs.c rfl (Subs.c rfl Subs.n)))))))), (Subs.c (lkS rfl (by rw [e9])) (Subs.c (lkI rfl (by omega)) Subs.n)), ⟨hRL2, ⟨by omega, by rw [e9]; omega, by rw [e9]; exact hT.up (by omega) (by omega), by rw [e9]; exact hB9⟩⟩, by first | omega | (dsimp only; omega)⟩
                · have hp84 := of_decide_eq_false hg84
                  refine W_skip ?_
                  refine thenE_n ?_
                  refine W_seq ?_
                  refine W_seq ?_
                  refine W_region ?_
                  refine WL_q rfl (ev_move rfl) ?_
                  refine WL_q rfl (ev_len Try.underlying78 rfl) ?_
                  refine WL_q rfl (ev_eql rfl rfl) ?_
                  refine WL_nil ?_
                  refine thenE_n ?_
                  refine W_cond rfl (fun hg87 => ?_) (fun hg87 => ?_)
                  · have hp87 := of_decide_eq_true hg87
                    refine W_seq ?_
                    refine W_region ?_
                    refine WL_q rfl (ev_buildP0 sn31_3 zr31 ) ?_
                    refine WL_s (ev_stores sz31 rfl rfl rfl (by simp [Value.oneCell']) hB6 (by simp)) ?_
                    rintro _ w17_1 hS17_1
                    have hz17_1 := hS17_1.size
                    replace hE := hE.sto hS17_1 (by omega)
                    replace hA := hA.sto hS17_1 (by omega)
                    replace hB3 := hB3.sto hS17_1 (by omega)
                    replace hB11 := hB11.sto hS17_1 (by omega)
                    replace hr73 := hr73.sto hS17_1 (by omega)
                    replace hT := hT.sto hS17_1 (by omega)
                    replace hB9 := hB9.sto hS17_1 (by omega)
                    replace hB13 := hB13.sto hS17_1 (by omega)
                    replace hB6 : Blk w17_1 _ _ [_, _, _] := hS17_1.blk
                    refine WL_q rfl (ev_assign rfl) ?_
                    refine WL_nil ?_
                    refine thenE_n ?_
                    refine W_ret ?_
                    refine thenE_r ?_
                    refine blockE_r ?_
                    refine thenE_r ?_
                    refine thenE_r ?_
                    refine blockE_r ?_
                    refine blockE_r ?_
                    refine thenE_r ?_
                    refine thenE_r ?_
                    refine blockE_r ?_
                    refine thenE_r ?_
                    refine retc2 rfl rfl st31 sz31 (cellsB hB6) rfl rfl ?_
                    first | (exact ⟨⟨none, 0, none, 0, none, 0⟩, ⟨[], [], []⟩, _, rfl, .no (fun h => hp18 h.1.1), OwnNet.nil, by decide, hE⟩) | (exact ⟨⟨none, 0, none, 0, none, 0⟩, ⟨[], [], []⟩, _, rfl, .no (fun h => hp23 h.1.2), OwnNet.nil, by decide, hE⟩) | (exact ⟨⟨none, 0, none, 0, none, 0⟩, ⟨[], [], []⟩, _, rfl, .no (fun h => hp28 h.2.1), OwnNet.nil, by decide, hE⟩) | (exact ⟨⟨none, 0, none, 0, none, 0⟩, ⟨[], [], []⟩, _, rfl, .no (fun h => absurd h.2.2 (Nat.not_le.2 (uK_big hz (by omega) hlk2 hp84 (by omega) (by omega)))), OwnNet.nil, by decide, hE⟩) | (exact hq152.elim (fun ⟨e1, h1, e2, e3⟩ => (by subst e1 e2 e3; exact ⟨_, unfN A v d, _, rfl, .yes hUO rfl, OwnNet.up ⟨_, _, hN⟩ (by omega) (by omega), NOk.tot (unfN_ok hUO), hE⟩)) (fun ⟨e1, h1, e2, e3⟩ => absurd (unfN_ok hUO) h1))
                  · have hp87 := of_decide_eq_false hg87
                    refine W_skip ?_
                    refine thenE_n ?_
                    refine W_seq ?_
                    refine W_region ?_
                    refine WL_q rfl (ev_fieldAddr fo61_0 rfl) ?_
                    refine WL_q rfl (ev_load one3 rfl (hB13.cell rfl)) ?_
                    refine WL_q rfl (ev_fieldAddr fo61_1 rfl) ?_
                    refine WL_q rfl (ev_load one3 rfl (hB13.cell rfl)) ?_
                    refine WL_q rfl (ev_fieldAddr fo77_2 rfl) ?_
                    refine WL_q rfl (ev_load one3 rfl (hB11.cell rfl)) ?_
                    refine WL_q rfl (ev_add rfl rfl (by omega)) ?_
                    refine WL_q rfl (ev_build3 sn77_3 rfl rfl rfl rfl rfl rfl) ?_
                    refine WL_m rfl (ev_alloc zr77) ?_
                    rintro _ w14 ⟨rfl, hN14⟩
                    have hz14 := hN14.size
                    replace hE := hE.trans hN14.ext
                    replace hRL0 := hRL0.trans hN14.ext
                    replace hRL2 := hRL2.trans hN14.ext
                    replace hA := hA.ext hN14.ext
                    replace hB3 := hB3.ext hN14.ext
                    replace hB6 := hB6.ext hN14.ext
                    replace hB11 := hB11.ext hN14.ext
                    replace hr73 := hr73.ext hN14.ext
                    replace hT := hT.ext hN14.ext
                    replace hB9 := hB9.ext hN14.ext
                    replace hB13 := hB13.ext hN14.ext
                    have hB14 : Blk w14 _ _ [_, _, _] := hN14.blk
                    refine WL_s (ev_stores sz77 rfl rfl rfl (by simp [Value.oneCell']) hB14 (by simp)) ?_
                    rintro _ w18_9 hS18_9
                    have hz18_9 := hS18_9.size
                    replace hE := hE.sto hS18_9 (by omega)
                    replace hRL0 := hRL0.sto hS18_9 (by omega)
                    replace hRL2 := hRL2.sto hS18_9 (by omega)
                    replace hA := hA.sto hS18_9 (by omega)
                    replace hB3 := hB3.sto hS18_9 (by omega)
                    replace hB6 := hB6.sto hS18_9 (by omega)
                    replace hB11 := hB11.sto hS18_9 (by omega)
                    replace hr73 := hr73.sto hS18_9 (by omega)
                    replace hT := hT.sto hS18_9 (by omega)
                    replace hB9 := hB9.sto hS18_9 (by omega)
                    replace hB13 := hB13.sto hS18_9 (by omega)
                    replace hB14 : Blk w18_9 _ _ [_, _, _] := hS18_9.blk
                    refine WL_nil ?_
                    refine thenE_n ?_
                    refine W_seq ?_
                    refine W_region ?_
                    refine WL_q rfl (ev_fieldAddr fo61_1 rfl) ?_
                    refine WL_q rfl (ev_load one3 rfl (hB13.cell rfl)) ?_
                    refine WL_q rfl (ev_assign rfl) ?_
                    refine WL_nil ?_
                    refine thenE_n ?_
                    refine W_seq ?_
                    refine W_region ?_
                    refine WL_q rfl (ev_fieldAddr fo31_0 rfl) ?_
                    refine WL_q rfl (ev_load one29 rfl (hB3.cell rfl)) ?_
                    refine WL_q rfl (ev_fieldAddr fo61_0 rfl) ?_
                    refine WL_q rfl (ev_load one3 rfl (hB13.cell rfl)) ?_
                    have hl103 : A.ends[z.x.toNat][k].1.toNat < A.ends.length := by omega
                    have ht103 := totL_le hl103
                    obtain ⟨a103, c103, hc103, hr103⟩ := hA.ends.row hl103
                    refine WL_q rfl (ev_indexAddr Try.underlying29 sz56 rfl rfl (hA.ends.isSome (by omega)) (by omega) (by omega)) ?_
                    refine WL_q rfl (ev_load one56 rfl (hc103)) ?_
                    refine WL_q rfl (ev_len Try.underlying56 rfl) ?_
                    have hkf := kid_facts hkA hUk hzk ht9 hp84 hl73 hlk hirk
                    have hkf1 := hkf.1
                    have hkf2 := hkf.2.1
                    have hkf3 := hkf.2.2
                    have hkx := kid_x (i := i) hl73 hlk
                    have hz6 : zlW A.ends d (kidW A.ends i z k) ≤ maxLen := by have := zlW_six (d := d) (w := (kidW A.ends i z k)) h6 (by rw [hkx.1]; exact he2); unfold maxLen; omega
                    have hkl1 : (uK A.ends i z (uN A.ends v d i) (k + 1)).length = (uK A.ends i z (uN A.ends v d i) k).length + 1 := by rw [uK_new hp84, List.length_append]; rfl
                    have hRl1 : (RI A.ends d (uK A.ends i z (uN A.ends v d i) (k + 1))).length = (RI A.ends d (uK A.ends i z (uN A.ends v d i) k)).length + 1 := by rw [RI_len, hkl1, hRk]
                    have hIl1 : ((uK A.ends i z (uN A.ends v d i) (k + 1)).map (inpW A)).length = ((uK A.ends i z (uN A.ends v d i) k).map (inpW A)).length + 1 := by rw [List.length_map, List.length_map, hkl1]
                    refine WL_m rfl (ev_make2N Try.underlying56 el61 rfl rfl (by omega) (by omega)) ?_
                    rintro _ w106 ⟨rfl, hN106⟩
                    have hz106 := hN106.size
                    replace hE := hE.trans hN106.ext
                    replace hRL0 := hRL0.trans hN106.ext
                    replace hRL2 := hRL2.trans hN106.ext
                    replace hA := hA.ext hN106.ext
                    replace hB3 := hB3.ext hN106.ext
                    replace hB6 := hB6.ext hN106.ext
                    replace hB11 := hB11.ext hN106.ext
                    replace hr73 := hr73.ext hN106.ext
                    replace hT := hT.ext hN106.ext
                    replace hB9 := hB9.ext hN106.ext
                    replace hB13 := hB13.ext hN106.ext
                    replace hB14 := hB14.ext hN106.ext
                    replace hr103 := hr103.ext hN106.ext
                    have hB106 := hN106.blk
                    refine WL_q rfl (ev_assign rfl) ?_
                    refine WL_nil ?_
                    refine thenE_n ?_
                    refine W_join (G := Nat) [(2, _), (3, _), (6, _), (8, _), (9, _), (10, _), (11, _), (12, _), (13, _), (14, _), (74, _), (75, _), (76, _)] ((Subs.c rfl (Subs.c rfl (Subs.c rfl (Subs.c rfl (Subs.c rfl (Subs.c rfl (Subs.c rfl (Subs.c rfl (Subs.c rfl (Subs.c rfl (Subs.c rfl (Subs.c rfl (Subs.c rfl Subs.n)))))))))))))) (fun gz => [(15, VI (qFW d (kidW A.ends i z k))), (16, .slice (some ⟨gz, 0, none⟩) (zlW A.ends d (kidW A.ends i z k)) (zlW A.ends d (kidW A.ends i z k)))]) (fun gz w' => Ext w106 w' ∧ w18_9.heap.size ≤ gz ∧ Blk w' gz 61 (pairCells (zrW A.ends d (kidW A.ends i z k)))) ?_ ?_
                    · have hRJ110 : Ext w106 w106 := Ext.refl _
                      refine W_seq ?_
                      refine W_region ?_
                      refine WL_q rfl (ev_fieldAddr fo77_2 rfl) ?_
                      refine WL_q rfl (ev_load one3 rfl (hB14.cell rfl)) ?_
                      refine WL_q rfl (ev_move rfl) ?_
                      refine WL_q rfl (ev_eql rfl rfl) ?_
                      refine WL_nil ?_
                      refine thenE_n ?_
                      refine W_cond rfl (fun hg110 => ?_) (fun hg110 => ?_)
                      · have hp110 := of_decide_eq_true hg110
                        refine W_drawE [(1, true), (0, false), (2, true)] mixed (by kernel_rfl) rfl (by kernel_rfl) ?_
                        intro wd22 hEd22 hzd22
                        replace hE := hE.trans hEd22
                        replace hRL0 := hRL0.trans hEd22
                        replace hRL2 := hRL2.trans hEd22
                        replace hRJ110 := hRJ110.trans hEd22
                        replace hA := hA.ext hEd22
                        replace hB3 := hB3.ext hEd22
                        replace hB6 := hB6.ext hEd22
                        replace hB11 := hB11.ext hEd22
                        replace hr73 := hr73.ext hEd22
                        replace hT := hT.ext hEd22
                        replace hB9 := hB9.ext hEd22
                        replace hB13 := hB13.ext hEd22
                        replace hB14 := hB14.ext hEd22
                        replace hr103 := hr103.ext hEd22
                        replace hB106 := hB106.ext hEd22
                        have hDd22 := Ext.refl wd22
                        refine PW_q rfl rfl (fun wq hq => ev_assign rfl) ?_
                        refine PW_m rfl rfl (ev_make2 Try.underlying56 el61 rfl rfl (by omega) (by omega) (by omega)) ?_
                        rintro _ w111 ⟨rfl, hN111⟩
                        have hz111 := hN111.size
                        replace hE := hE.trans hN111.ext
                        replace hRL0 := hRL0.trans hN111.ext
                        replace hRL2 := hRL2.trans hN111.ext
                        replace hRJ110 := hRJ110.trans hN111.ext
                        replace hDd22 := hDd22.trans hN111.ext
                        have hB111 := hN111.blk
                        refine ⟨hDd22, ?_⟩
                        refine PW_q rfl rfl (fun wq hq => ev_assign rfl) ?_
                        replace hA := hA.ext hDd22
                        replace hB3 := hB3.ext hDd22
                        replace hB6 := hB6.ext hDd22
                        replace hB11 := hB11.ext hDd22
                        replace hr73 := hr73.ext hDd22
                        replace hT := hT.ext hDd22
                        replace hB9 := hB9.ext hDd22
                        replace hB13 := hB13.ext hDd22
                        replace hB14 := hB14.ext hDd22
                        replace hr103 := hr103.ext hDd22
                        replace hB106 := hB106.ext hDd22
                        refine PW_nil ?_
                        refine thenE_n ?_
                        have hkq := kid_end (A := A) (i := i) (k := k) (z := z) hp110 (by omega)
                        exact ⟨wd22.heap.size, (Subs.c rfl (Subs.c rfl (Subs.c rfl (Subs.c rfl (Subs.c rfl (Subs.c rfl (Subs.c rfl (Subs.c rfl (Subs.c rfl (Subs.c rfl (Subs.c rfl (Subs.c rfl (Subs.c rfl Subs.n))))))))))))), (Subs.c (lkI rfl (by rw [hkq.1])) (Subs.c (lkV rfl (congrArg (fun n => Value.slice (some ⟨wd22.heap.size, 0, none⟩) n n) hkq.2.symm)) Subs.n)), ⟨hRJ110, ⟨by omega, by unfold zrW; rw [hkq.2, ← pc_zeros9]; exact hB111⟩⟩⟩
                      · have hp110 := of_decide_eq_false hg110
                        refine W_skip ?_
                        refine thenE_n ?_
                        have hkq := kid_mid (i := i) hp110 ht9 hl73 hlk he2
                        exact ⟨w18_9.heap.size, (Subs.c rfl (Subs.c rfl (Subs.c rfl (Subs.c rfl (Subs.c rfl (Subs.c rfl (Subs.c rfl (Subs.c rfl (Subs.c rfl (Subs.c rfl (Subs.c rfl (Subs.c rfl (Subs.c rfl Subs.n))))))))))))), (Subs.c (lkI rfl (by rw [hkq.1])) (Subs.c (lkV rfl (congrArg (fun n => Value.slice (some ⟨w18_9.heap.size, 0, none⟩) n n) hkq.2.symm)) Subs.n)), ⟨hRJ110, ⟨by omega, by unfold zrW; rw [hkq.2, ← pc_zeros9]; exact hB106⟩⟩⟩
                    · rintro gz wJ110 ⟨hEJ110, hgz, hZ⟩
                      have hzJ110 := hEJ110.size
                      replace hE := hE.trans hEJ110
                      replace hRL0 := hRL0.trans hEJ110
                      replace hRL2 := hRL2.trans hEJ110
                      replace hA := hA.ext hEJ110
                      replace hB3 := hB3.ext hEJ110
                      replace hB6 := hB6.ext hEJ110
                      replace hB11 := hB11.ext hEJ110
                      replace hr73 := hr73.ext hEJ110
                      replace hT := hT.ext hEJ110
                      replace hB9 := hB9.ext hEJ110
                      replace hB13 := hB13.ext hEJ110
                      replace hB14 := hB14.ext hEJ110
                      replace hr103 := hr103.ext hEJ110
                      replace hB106 := hB106.ext hEJ110
                      refine W_seq ?_
                      refine W_region ?_
                      refine WL_q rfl (ev_move rfl) ?_
                      refine WL_q rfl (ev_move rfl) ?_
                      refine WL_q rfl (ev_move rfl) ?_
                      refine WL_q rfl (ev_move rfl) ?_
                      refine WL_q rfl (ev_build2 sn61_2 rfl rfl rfl rfl) ?_
                      refine WL_q rfl (ev_indexAddr Try.underlying56 sz61 rfl rfl rfl (by omega) (by omega)) ?_
                      refine WL_s (ev_stores sz61 rfl rfl rfl (by simp [Value.oneCell']) hZ (by rw [pairCells_length, zrW_len]; show _ + 2 ≤ _; omega)) ?_
                      rintro _ w23_6 hS23_6
                      have hz23_6 := hS23_6.size
                      replace hE := hE.sto hS23_6 (by omega)
                      replace hRL0 := hRL0.sto hS23_6 (by omega)
                      replace hRL2 := hRL2.sto hS23_6 (by omega)
                      replace hA := hA.sto hS23_6 (by omega)
                      replace hB3 := hB3.sto hS23_6 (by omega)
                      replace hB6 := hB6.sto hS23_6 (by omega)
                      replace hB11 := hB11.sto hS23_6 (by omega)
                      replace hr73 := hr73.sto hS23_6 (by omega)
                      replace hT := hT.sto hS23_6 (by omega)
                      replace hB9 := hB9.sto hS23_6 (by omega)
                      replace hB13 := hB13.sto hS23_6 (by omega)
                      replace hB14 := hB14.sto hS23_6 (by omega)
                      replace hr103 := hr103.sto hS23_6 (by omega)
                      replace hZ := hS23_6.blk
                      replace hZ := hZ.to (show _ = pairCells ((zrW A.ends d (kidW A.ends i z k)).set (qFW d (kidW A.ends i z k)).toNat ((i : Int), (k : Int))) by have h9 := pc_splice9 (rest := []) (e := ((i : Int), (k : Int))) (xs := zrW A.ends d (kidW A.ends i z k)) (y := (qFW d (kidW A.ends i z k)).toNat) (by rw [zrW_len]; omega); simpa using h9)
                      refine WL_nil ?_
                      refine thenE_n ?_
                      refine W_seq ?_
                      refine W_region ?_
                      have hvl : vs2.length = (RI A.ends d (uK A.ends i z (uN A.ends v d i) k)).length := hT.net.rows.len
                      have hiv : i < vs2.length := by omega
                      obtain ⟨gO, restO, hga, hgl, hgr, hBo, hcap, hOr, hsep⟩ := hT.net.rowOpen hiv hirk
                      have hga2 : a12 = some ⟨gO, 0, none⟩ := hga
                      subst hga2
                      have e8 := rowsp_cell (rest := restO) hT.net.rows hiv hirk
                      obtain ⟨gk, restk, hgka, hgkl, hgkr, hBr, hgk1, hgk2, hgk3⟩ := hT.net.rowBlk hiv hirk (y := k) (by rw [hkf3]; exact hlk)
                      have hgk := hT.offN gk (.inr (.inr (.inr ⟨i, hiv, _, hgka, rfl⟩)))
                      dsimp only at e8 hBr hgk1 hgk3
                      rw [hgka] at e8
                      refine WL_q rfl (ev_fieldAddr fo31_0 rfl) ?_
                      refine WL_q rfl (ev_load one29 rfl (hB9.cell rfl)) ?_
                      refine WL_q rfl (ev_move rfl) ?_
                      refine WL_q rfl (ev_indexAddr Try.underlying29 sz56 rfl rfl rfl (by omega) (by omega)) ?_
                      refine WL_q rfl (ev_load one56 rfl (hBo.cellAt e8 (by simp))) ?_
                      refine WL_q rfl (ev_move rfl) ?_
                      refine WL_q rfl (ev_move rfl) ?_
                      refine WL_q rfl (ev_len Try.underlying78 rfl) ?_
                      refine WL_q rfl (ev_move rfl) ?_
                      refine WL_q rfl (ev_build2 sn61_2 rfl rfl rfl rfl) ?_
                      refine WL_q rfl (ev_indexAddr Try.underlying56 sz61 rfl rfl rfl (by omega) (by omega)) ?_
                      have hT0 := hT
                      have hBr0 := hBr
                      refine WL_s (ev_stores sz61 rfl rfl rfl (by simp [Value.oneCell']) hBr (by rw [List.length_append, pairCells_length, hkf3]; show _ + 2 ≤ _; omega)) ?_
                      rintro _ w24_11 hS24_11
                      have hz24_11 := hS24_11.size
                      replace hE := hE.sto hS24_11 (by omega)
                      replace hRL0 := hRL0.sto hS24_11 (by omega)
                      replace hRL2 := hRL2.sto hS24_11 (by omega)
                      replace hA := hA.sto hS24_11 (by omega)
                      replace hB3 := hB3.sto hS24_11 (by omega)
                      replace hB6 := hB6.sto hS24_11 (by omega)
                      replace hB11 := hB11.sto hS24_11 (by omega)
                      replace hr73 := hr73.sto hS24_11 (by omega)
                      replace hB9 := hB9.sto hS24_11 (by omega)
                      replace hB13 := hB13.sto hS24_11 (by omega)
                      replace hB14 := hB14.sto hS24_11 (by omega)
                      replace hr103 := hr103.sto hS24_11 (by omega)
                      replace hZ := hZ.sto hS24_11 (by omega)
                      replace hBr := hS24_11.blk
                      have hT := (hT0.setEnd (e := (((uK A.ends i z (uN A.ends v d i) k).length : Int), qFW d (kidW A.ends i z k))) hiv hirk (by rw [hkf3]; exact hlk) hgka ⟨hgk1, hgk2, hgk3⟩ hgkl hS24_11 (by simpa using hBr)).re (q' := wL0.heap.size) (g' := gz) ⟨by omega, by omega⟩
                      refine WL_nil ?_
                      refine thenE_n ?_
                      refine W_drawY (X := Option Addr × Nat × Option Addr × Nat × Option Addr × Nat × List (Option Addr × Nat)) (fun x => [(8, .slice x.1 (uK A.ends i z (uN A.ends v d i) (k + 1)).length x.2.1)]) (fun x w' => UT w23.heap.size w'.heap.size w'.heap.size b9 wL0.heap.size b9 w' 61 56 3 77 (uK A.ends i z (uN A.ends v d i) (k + 1)) x.1 x.2.1 x.2.2.2.2.2.2 ⟨x.2.2.1, x.2.2.2.1, none, 0, x.2.2.2.2.1, x.2.2.2.2.2.1⟩ ⟨RI A.ends d (uK A.ends i z (uN A.ends v d i) (k + 1)), [], (uK A.ends i z (uN A.ends v d i) (k + 1)).map (inpW A)⟩ ∧ Blk w' b9 31 [.slice x.2.2.1 (RI A.ends d (uK A.ends i z (uN A.ends v d i) (k + 1))).length x.2.2.2.1, .slice none 0 0, .slice x.2.2.2.2.1 ((uK A.ends i z (uN A.ends v d i) (k + 1)).map (inpW A)).length x.2.2.2.2.2.1] ∧ Blk w' wL0.heap.size 77 [VI z.x, VI z.q, VI z.t] ∧ Rg w23.heap.size w10_5.heap.size wL0.heap.size (wL0.heap.size + 1) w10_5 w' ∧ Lo (w23.heap.size) wJ44 w' ∧ Ext w w') 21 w23.heap.size wL2.heap.size b9 (b9 + 1) w23.heap.size wL2.heap.size 0 0 (.q 0 (.q 1 (.q 4 (.q 5 (.q 6 (.q 9 (.q 10 (.h 11 (.h 12 (.h 13 (.h 14 (.h 15 (.h 16 (.c 2 (.c 3 (.b 7 (.b 8 (.a 17 (.a 18 (.q 19 (.q 20 (.z 21 (.h 22 (.a 23 .done))))))) 17 (.a 8 (.a 18 (.q 19 (.q 20 (.z 21 (.h 22 (.a 23 .done)))))))) 17 (.a 7 (.a 8 (.a 18 (.q 19 (.q 20 (.z 21 (.h 22 (.a 23 .done))))))))) 7 (.b 3 (.b 8 (.a 17 (.a 18 (.q 19 (.q 20 (.z 21 (.h 22 (.a 23 .done))))))) 17 (.a 8 (.a 18 (.q 19 (.q 20 (.z 21 (.h 22 (.a 23 .done)))))))) 17 (.a 3 (.a 8 (.a 18 (.q 19 (.q 20 (.z 21 (.h 22 (.a 23 .done))))))))) 17 (.b 3 (.a 7 (.a 8 (.a 18 (.q 19 (.q 20 (.z 21 (.h 22 (.a 23 .done)))))))) 7 (.a 3 (.a 8 (.a 18 (.q 19 (.q 20 (.z 21 (.h 22 (.a 23 .done)))))))))) 7 (.b 2 (.b 3 (.b 8 (.a 17 (.a 18 (.q 19 (.q 20 (.z 21 (.h 22 (.a 23 .done))))))) 17 (.a 8 (.a 18 (.q 19 (.q 20 (.z 21 (.h 22 (.a 23 .done)))))))) 17 (.a 3 (.a 8 (.a 18 (.q 19 (.q 20 (.z 21 (.h 22 (.a 23 .done))))))))) 17 (.a 2 (.a 3 (.a 8 (.a 18 (.q 19 (.q 20 (.z 21 (.h 22 (.a 23 .done)))))))))) 17 (.b 2 (.b 3 (.a 7 (.a 8 (.a 18 (.q 19 (.q 20 (.z 21 (.h 22 (.a 23 .done)))))))) 7 (.a 3 (.a 8 (.a 18 (.q 19 (.q 20 (.z 21 (.h 22 (.a 23 .done))))))))) 7 (.a 2 (.a 3 (.a 8 (.a 18 (.q 19 (.q 20 (.z 21 (.h 22 (.a 23 .done)))))))))))))))))))))))) mixed (by kernel_rfl) rfl (by kernel_rfl) ?_ ?_
                      · intro wd25 hEd25 hzd25
                        replace hE := hE.trans hEd25
                        replace hRL0 := hRL0.trans hEd25
                        replace hRL2 := hRL2.trans hEd25
                        replace hA := hA.ext hEd25
                        replace hB3 := hB3.ext hEd25
                        replace hB11 := hB11.ext hEd25
                        replace hB9 := hB9.ext hEd25
                        replace hB13 := hB13.ext hEd25
                        replace hB14 := hB14.ext hEd25
                        replace hZ := hZ.ext hEd25
                        replace hT := hT.ext hEd25
                        have hSd25 := (Rg.refl : Rg w23.heap.size wL2.heap.size b9 (b9 + 1) wd25 wd25)
                        have hUd25 := (Rg.refl : Rg w23.heap.size wL2.heap.size 0 0 wd25 wd25)
                        refine PY_q rfl rfl (fun wq hq => ev_move rfl) ?_
                        refine PY_q rfl rfl (fun wq hq => ev_loads st77 sz77 rfl (cellsB (hB14.rg hq.1 (by omega))) rfl) ?_
                        refine PY_q rfl rfl (fun wq hq => ev_fieldAddr fo31_0 rfl) ?_
                        refine PY_q rfl rfl (fun wq hq => ev_load one29 rfl ((hB9.rg hq.1 (by omega)).cell rfl)) ?_
                        refine PY_q rfl rfl (fun wq hq => ev_move rfl) ?_
                        refine PY_q rfl rfl (fun wq hq => ev_fieldAddr fo31_2 rfl) ?_
                        refine PY_q rfl rfl (fun wq hq => ev_load one23 rfl ((hB9.rg hq.1 (by omega)).cell rfl)) ?_
                        refine PY_h rfl rfl (fun wq hq => ev_fieldAddr fo31_2 rfl) ?_
                        refine PY_h rfl rfl (fun wq hq => ev_load one23 rfl ((hB3.rg hq.1 (by omega)).cell rfl)) ?_
                        refine PY_h rfl rfl (fun wq hq => ev_fieldAddr fo61_0 rfl) ?_
                        refine PY_h rfl rfl (fun wq hq => ev_load one3 rfl ((hB13.rg hq.1 (by omega)).cell rfl)) ?_
                        refine PY_h rfl rfl (fun wq hq => ev_indexAddr Try.underlying23 sz3 rfl rfl (hA.inputs.isSome (by omega)) (by omega) (by omega)) ?_
                        refine PY_h rfl rfl (fun wq hq => ev_load one3 rfl ((hA.inputs.rg hq.1 (by omega)).cellJ (i := A.ends[z.x.toNat][k].1.toNat) (j := A.ends[z.x.toNat][k].1.toNat) (by omega) (by omega))) ?_
                        refine PY_c ?_ ?_ ?_
                        · refine PB_m w23.heap.size wL2.heap.size b9 (b9 + 1) w23.heap.size wL2.heap.size 0 0 rfl rfl (ev_lit1 Try.underlying78 el77 (by decide) (by decide) rfl rfl) ?_
                          rintro _ w131 ⟨rfl, hN131⟩
                          have hz131 := hN131.size
                          replace hE := hE.trans hN131.ext
                          replace hRL0 := hRL0.trans hN131.ext
                          replace hRL2 := hRL2.trans hN131.ext
                          replace hSd25 := hSd25.trans hN131.ext
                          replace hUd25 := hUd25.trans hN131.ext
                          replace hA := hA.ext hN131.ext
                          replace hB3 := hB3.ext hN131.ext
                          replace hB11 := hB11.ext hN131.ext
                          replace hB9 := hB9.ext hN131.ext
                          replace hB13 := hB13.ext hN131.ext
                          replace hB14 := hB14.ext hN131.ext
                          replace hZ := hZ.ext hN131.ext
                          replace hT := hT.ext hN131.ext
                          have hB131 := hN131.blk
                          refine ⟨fun _ hx => ⟨hSd25.rg hx (by omega), trivial⟩, fun _ hx => ⟨hUd25.rg hx (by omega), trivial⟩, ?_⟩
                          have hSd25 := (Rg.refl : Rg w23.heap.size wL2.heap.size b9 (b9 + 1) w131 w131)
                          have hUd25 := (Rg.refl : Rg w23.heap.size wL2.heap.size 0 0 w131 w131)
                          refine PY_c ?_ ?_ ?_
                          · have hP132 := hT.wks
                            have hgz2 := hZ.lt
                            have hT1 := hT.ow
                            refine PB_m w23.heap.size wL2.heap.size b9 (b9 + 1) w23.heap.size wL2.heap.size 0 0 rfl rfl (ev_append Try.underlying78 el77 rfl (by decide) rfl rfl hP132 (SAt.of_blk (cs := [_, _, _]) (ds := []) hB131) rfl (by simp [Value.oneCell']) (by omega) (by unfold maxLen; omega) (by omega)) ?_
                            rintro _ w132 ⟨a132, c132, rfl, hO132, hK132, hQ132⟩
                            have hz132 := hK132.size
                            replace hE := hE.app hK132 (fun q hq => by have h1 := hT1 q hq; omega)
                            replace hRL0 := hRL0.app hK132 (fun q hq => by have h1 := hT1 q hq; omega)
                            replace hRL2 := hRL2.app hK132 (fun q hq => by have h1 := hT1 q hq; omega)
                            replace hSd25 := hSd25.app hK132 (fun q hq => by have h1 := hT1 q hq; omega)
                            replace hUd25 := hUd25.app hK132 (fun q hq => by have h1 := hT1 q hq; omega)
                            replace hB11 := hB11.keep hK132 ⟨hB11.lt, fun q hq => by have h1 := hT1 q hq; omega⟩
                            replace hB9 := hB9.keep hK132 ⟨hB9.lt, fun q hq => by have h1 := hT1 q hq; omega⟩
                            replace hB13 := hB13.keep hK132 ⟨hB13.lt, fun q hq => by have h1 := hT1 q hq; omega⟩
                            replace hB14 := hB14.keep hK132 ⟨hB14.lt, fun q hq => by have h1 := hT1 q hq; omega⟩
                            replace hZ := hZ.keep hK132 ⟨hZ.lt, fun q hq => by have h1 := hT1 q hq; omega⟩
                            have hP132 := hO132
                            replace hT := hT.pushW (z := (kidW A.ends i z k)) hK132 (by rw [hkx.1, hkx.2]; exact hO132) rfl hQ132 ⟨by omega, by omega, by omega⟩
                            refine ⟨fun _ hx => ⟨hSd25.rg hx (by omega), trivial⟩, fun _ hx => ⟨hUd25.rg hx (by omega), trivial⟩, ?_⟩
                            have hSd25 := (Rg.refl : Rg w23.heap.size wL2.heap.size b9 (b9 + 1) w132 w132)
                            have hUd25 := (Rg.refl : Rg w23.heap.size wL2.heap.size 0 0 w132 w132)
                            refine PY_b ?_ ?_
                            · refine PB_m w23.heap.size wL2.heap.size b9 (b9 + 1) w23.heap.size wL2.heap.size 0 0 rfl rfl (ev_lit1 Try.underlying29 el56 (by decide) (by decide) rfl rfl) ?_
                              rintro _ w136 ⟨rfl, hN136⟩
                              have hz136 := hN136.size
                              replace hE := hE.trans hN136.ext
                              replace hRL0 := hRL0.trans hN136.ext
                              replace hRL2 := hRL2.trans hN136.ext
                              replace hSd25 := hSd25.trans hN136.ext
                              replace hUd25 := hUd25.trans hN136.ext
                              replace hB11 := hB11.ext hN136.ext
                              replace hB9 := hB9.ext hN136.ext
                              replace hB13 := hB13.ext hN136.ext
                              replace hB14 := hB14.ext hN136.ext
                              replace hZ := hZ.ext hN136.ext
                              replace hT := hT.ext hN136.ext
                              have hB136 := hN136.blk
                              refine ⟨fun _ hx => ⟨hSd25.rg hx (by omega), trivial⟩, fun _ hx => ⟨hUd25.rg hx (by omega), trivial⟩, ?_⟩
                              have hSd25 := (Rg.refl : Rg w23.heap.size wL2.heap.size b9 (b9 + 1) w136 w136)
                              have hUd25 := (Rg.refl : Rg w23.heap.size wL2.heap.size 0 0 w136 w136)
                              refine PY_b ?_ ?_
                              · have hP137 := hT.net.rows.out
                                dsimp only at hP137
                                rw [List.length_set] at hP137
                                have hT1 := hT.o1
                                have hJ9 := hT.o3
                                have hyz := Own.of_front (lo := w23.heap.size) (n := ((zrW A.ends d (kidW A.ends i z k)).set (qFW d (kidW A.ends i z k)).toNat ((i : Int), (k : Int))).length) (c := zlW A.ends d (kidW A.ends i z k)) (sz := 2) (rest := []) (by rw [List.append_nil]; exact hZ) (by omega) (by rw [List.length_set, zrW_len]; exact Nat.le_refl _) hz6 (by rw [List.append_nil, pairCells_length, List.length_set, zrW_len]) (by rw [pairCells_length])
                                refine PB_m w23.heap.size wL2.heap.size b9 (b9 + 1) w23.heap.size wL2.heap.size 0 0 rfl rfl (ev_append Try.underlying29 el56 rfl (by decide) rfl rfl hP137 (SAt.of_blk (cs := [_]) (ds := []) hB136) rfl (by simp [Value.oneCell']) (by omega) (by unfold maxLen; omega) (by omega)) ?_
                                rintro _ w137 ⟨a137, c137, rfl, hO137, hK137, hQ137⟩
                                have hz137 := hK137.size
                                replace hE := hE.app hK137 (fun q hq => by have h1 := hT1 q hq; omega)
                                replace hRL0 := hRL0.app hK137 (fun q hq => by have h1 := hT1 q hq; omega)
                                replace hRL2 := hRL2.app hK137 (fun q hq => by have h1 := hT1 q hq; omega)
                                replace hSd25 := hSd25.app hK137 (fun q hq => by have h1 := hT1 q hq; omega)
                                replace hUd25 := hUd25.app hK137 (fun q hq => by have h1 := hT1 q hq; omega)
                                replace hB11 := hB11.keep hK137 ⟨hB11.lt, fun q hq => by have h1 := hT1 q hq; omega⟩
                                replace hB9 := hB9.keep hK137 ⟨hB9.lt, fun q hq => by have h1 := hT1 q hq; omega⟩
                                have hP137 := hO137
                                replace hT := hT.pushRow hyz ⟨by omega, by omega, by omega⟩ hK137 (by rw [List.length_set, zrW_len]; exact hO137) (by rw [List.length_set]) hQ137 ⟨by omega, by omega⟩ ⟨by omega, by omega⟩
                                dsimp only at hT
                                refine ⟨fun _ hx => ⟨hSd25.rg hx (by omega), trivial⟩, fun _ hx => ⟨hUd25.rg hx (by omega), trivial⟩, ?_⟩
                                have hSd25 := (Rg.refl : Rg w23.heap.size wL2.heap.size b9 (b9 + 1) w137 w137)
                                have hUd25 := (Rg.refl : Rg w23.heap.size wL2.heap.size 0 0 w137 w137)
                                refine PY_a ?_
                                refine PB_m w23.heap.size wL2.heap.size b9 (b9 + 1) w23.heap.size wL2.heap.size 0 0 rfl rfl (ev_lit1 Try.underlying23 el3 (by decide) (by decide) rfl rfl) ?_
                                rintro _ w146 ⟨rfl, hN146⟩
                                have hz146 := hN146.size
                                replace hE := hE.trans hN146.ext
                                replace hRL0 := hRL0.trans hN146.ext
                                replace hRL2 := hRL2.trans hN146.ext
                                replace hSd25 := hSd25.trans hN146.ext
                                replace hUd25 := hUd25.trans hN146.ext
                                replace hB11 := hB11.ext hN146.ext
                                replace hB9 := hB9.ext hN146.ext
                                replace hT := hT.ext hN146.ext
                                have hB146 := hN146.blk
                                refine ⟨fun _ hx => ⟨hSd25.rg hx (by omega), trivial⟩, fun _ hx => ⟨hUd25.rg hx (by omega), trivial⟩, ?_⟩
                                have hSd25 := (Rg.refl : Rg w23.heap.size wL2.heap.size b9 (b9 + 1) w146 w146)
                                have hUd25 := (Rg.refl : Rg w23.heap.size wL2.heap.size 0 0 w146 w146)
                                refine PY_a ?_
                                have hP147 := hT.net.inp.1
                                dsimp only at hP147
                                have hT1 : ∀ q, a32 = some q → (w23.heap.size ≤ q.block ∧ q.block < wL2.heap.size) ∧ q.block ≠ b9 ∧ q.block ≠ wL0.heap.size ∧ q.block ≠ gz := hJ9
                                refine PB_m w23.heap.size wL2.heap.size b9 (b9 + 1) w23.heap.size wL2.heap.size 0 0 rfl rfl (ev_append Try.underlying23 el3 rfl (by decide) rfl rfl hP147 (SAt.of_blk (cs := [_]) (ds := []) hB146) rfl (by simp [Value.oneCell']) (by omega) (by unfold maxLen; omega) (by omega)) ?_
                                rintro _ w147 ⟨a147, c147, rfl, hO147, hK147, hQ147⟩
                                have hz147 := hK147.size
                                replace hE := hE.app hK147 (fun q hq => by have h1 := hT1 q hq; omega)
                                replace hRL0 := hRL0.app hK147 (fun q hq => by have h1 := hT1 q hq; omega)
                                replace hRL2 := hRL2.app hK147 (fun q hq => by have h1 := hT1 q hq; omega)
                                replace hSd25 := hSd25.app hK147 (fun q hq => by have h1 := hT1 q hq; omega)
                                replace hUd25 := hUd25.app hK147 (fun q hq => by have h1 := hT1 q hq; omega)
                                replace hB11 := hB11.keep hK147 ⟨hB11.lt, fun q hq => by have h1 := hT1 q hq; omega⟩
                                replace hB9 := hB9.keep hK147 ⟨hB9.lt, fun q hq => by have h1 := hT1 q hq; omega⟩
                                have hP147 := hO147
                                replace hT := hT.pushInp hK147 hO147 rfl hQ147 ⟨by omega, by omega⟩ ⟨by omega, by omega, by omega⟩
                                dsimp only at hT
                                replace hT := hT.to (show _ = (uK A.ends i z (uN A.ends v d i) (k + 1)) from (uK_new hp84).symm) (show _ = (⟨RI A.ends d (uK A.ends i z (uN A.ends v d i) (k + 1)), [], (uK A.ends i z (uN A.ends v d i) (k + 1)).map (inpW A)⟩ : Net) by rw [uK_new hp84, RI_kid hirk, List.map_append, List.map_singleton, kid_inp hl73 hlk (by omega)])
                                refine ⟨fun _ hx => ⟨hSd25.rg hx (by omega), trivial⟩, fun _ hx => ⟨hUd25.rg hx (by omega), trivial⟩, ?_⟩
                                have hSd25 := (Rg.refl : Rg w23.heap.size wL2.heap.size b9 (b9 + 1) w147 w147)
                                have hUd25 := (Rg.refl : Rg w23.heap.size wL2.heap.size 0 0 w147 w147)
                                refine PY_q rfl rfl (fun wq hq => ev_assign rfl) ?_
                                refine PY_q rfl rfl (fun wq hq => ev_fieldAddr fo31_0 rfl) ?_
                                refine PY_z ?_
                                refine PB_s w23.heap.size wL2.heap.size 0 0 w23.heap.size wL2.heap.size 0 0 rfl (ev_store sz29 rfl rfl rfl hB9 (by simp)) ?_
                                rintro _ w25_21 hS25_21
                                have hz25_21 := hS25_21.size
                                replace hE := hE.sto hS25_21 (by omega)
                                replace hRL0 := hRL0.sto hS25_21 (by omega)
                                replace hRL2 := hRL2.sto hS25_21 (by omega)
                                replace hUd25 := hUd25.sto hS25_21 (by omega)
                                replace hB11 := hB11.sto hS25_21 (by omega)
                                replace hT := hT.sto hS25_21 (by omega)
                                replace hB9 : Blk w25_21 _ _ [_, _, _] := hS25_21.blk
                                refine ⟨fun _ _ => trivial, fun _ hx => ⟨hUd25.rg hx (by omega), trivial⟩, ?_⟩
                                have hSd25 := (Rg.refl : Rg w23.heap.size wL2.heap.size 0 0 w25_21 w25_21)
                                have hUd25 := (Rg.refl : Rg w23.heap.size wL2.heap.size 0 0 w25_21 w25_21)
                                refine PY_h rfl rfl (fun wq hq => ev_fieldAddr fo31_2 rfl) ?_
                                refine PY_a ?_
                                refine PB_s w23.heap.size wL2.heap.size 0 0 w23.heap.size wL2.heap.size 0 0 rfl (ev_store sz23 rfl rfl rfl hB9 (by simp)) ?_
                                rintro _ w25_23 hS25_23
                                have hz25_23 := hS25_23.size
                                replace hE := hE.sto hS25_23 (by omega)
                                replace hRL0 := hRL0.sto hS25_23 (by omega)
                                replace hRL2 := hRL2.sto hS25_23 (by omega)
                                replace hUd25 := hUd25.sto hS25_23 (by omega)
                                replace hSd25 := hSd25.sto hS25_23 (by omega)
                                replace hB11 := hB11.sto hS25_23 (by omega)
                                replace hT := hT.sto hS25_23 (by omega)
                                replace hB9 : Blk w25_23 _ _ [_, _, _] := hS25_23.blk
                                refine ⟨fun _ hx => ⟨hSd25.rg hx (by omega), trivial⟩, fun _ hx => ⟨hUd25.rg hx (by omega), trivial⟩, ?_⟩
                                have hSd25 := (Rg.refl : Rg w23.heap.size wL2.heap.size 0 0 w25_23 w25_23)
                                have hUd25 := (Rg.refl : Rg w23.heap.size wL2.heap.size 0 0 w25_23 w25_23)
                                exact PY_nil 22 (a132, c132, a137, c137, a147, c147, vs2 ++ [(some ⟨gz, 0, none⟩, zlW A.ends d (kidW A.ends i z k))]) rfl ⟨lkS rfl hkl1.symm, trivial⟩ rfl ⟨(hT.re ⟨by omega, by omega⟩).up (by omega) (by omega), by rw [hRl1, hIl1]; exact hB9, hB11, hRL2, hRL0, hE⟩
                              · refine PB_m w23.heap.size wL2.heap.size b9 (b9 + 1) w23.heap.size wL2.heap.size 0 0 rfl rfl (ev_lit1 Try.underlying23 el3 (by decide) (by decide) rfl rfl) ?_
                                rintro _ w146 ⟨rfl, hN146⟩
                                have hz146 := hN146.size
                                replace hE := hE.trans hN146.ext
                                replace hRL0 := hRL0.trans hN146.ext
                                replace hRL2 := hRL2.trans hN146.ext
                                replace hSd25 := hSd25.trans hN146.ext
                                replace hUd25 := hUd25.trans hN146.ext
                                replace hB11 := hB11.ext hN146.ext
                                replace hB9 := hB9.ext hN146.ext
                                replace hB13 := hB13.ext hN146.ext
                                replace hB14 := hB14.ext hN146.ext
                                replace hZ := hZ.ext hN146.ext
                                replace hT := hT.ext hN146.ext
                                replace hB136 := hB136.ext hN146.ext
                                have hB146 := hN146.blk
                                refine ⟨fun _ hx => ⟨hSd25.rg hx (by omega), trivial⟩, fun _ hx => ⟨hUd25.rg hx (by omega), trivial⟩, ?_⟩
                                have hSd25 := (Rg.refl : Rg w23.heap.size wL2.heap.size b9 (b9 + 1) w146 w146)
                                have hUd25 := (Rg.refl : Rg w23.heap.size wL2.heap.size 0 0 w146 w146)
                                refine PY_a ?_
                                have hP137 := hT.net.rows.out
                                dsimp only at hP137
                                rw [List.length_set] at hP137
                                have hT1 := hT.o1
                                have hJ9 := hT.o3
                                have hyz := Own.of_front (lo := w23.heap.size) (n := ((zrW A.ends d (kidW A.ends i z k)).set (qFW d (kidW A.ends i z k)).toNat ((i : Int), (k : Int))).length) (c := zlW A.ends d (kidW A.ends i z k)) (sz := 2) (rest := []) (by rw [List.append_nil]; exact hZ) (by omega) (by rw [List.length_set, zrW_len]; exact Nat.le_refl _) hz6 (by rw [List.append_nil, pairCells_length, List.length_set, zrW_len]) (by rw [pairCells_length])
                                refine PB_m w23.heap.size wL2.heap.size b9 (b9 + 1) w23.heap.size wL2.heap.size 0 0 rfl rfl (ev_append Try.underlying29 el56 rfl (by decide) rfl rfl hP137 (SAt.of_blk (cs := [_]) (ds := []) hB136) rfl (by simp [Value.oneCell']) (by omega) (by unfold maxLen; omega) (by omega)) ?_
                                rintro _ w137 ⟨a137, c137, rfl, hO137, hK137, hQ137⟩
                                have hz137 := hK137.size
                                replace hE := hE.app hK137 (fun q hq => by have h1 := hT1 q hq; omega)
                                replace hRL0 := hRL0.app hK137 (fun q hq => by have h1 := hT1 q hq; omega)
                                replace hRL2 := hRL2.app hK137 (fun q hq => by have h1 := hT1 q hq; omega)
                                replace hSd25 := hSd25.app hK137 (fun q hq => by have h1 := hT1 q hq; omega)
                                replace hUd25 := hUd25.app hK137 (fun q hq => by have h1 := hT1 q hq; omega)
                                replace hB11 := hB11.keep hK137 ⟨hB11.lt, fun q hq => by have h1 := hT1 q hq; omega⟩
                                replace hB9 := hB9.keep hK137 ⟨hB9.lt, fun q hq => by have h1 := hT1 q hq; omega⟩
                                replace hB146 := hB146.keep hK137 ⟨hB146.lt, fun q hq => by have h1 := hT1 q hq; omega⟩
                                have hP137 := hO137
                                replace hT := hT.pushRow hyz ⟨by omega, by omega, by omega⟩ hK137 (by rw [List.length_set, zrW_len]; exact hO137) (by rw [List.length_set]) hQ137 ⟨by omega, by omega⟩ ⟨by omega, by omega⟩
                                dsimp only at hT
                                refine ⟨fun _ hx => ⟨hSd25.rg hx (by omega), trivial⟩, fun _ hx => ⟨hUd25.rg hx (by omega), trivial⟩, ?_⟩
                                have hSd25 := (Rg.refl : Rg w23.heap.size wL2.heap.size b9 (b9 + 1) w137 w137)
                                have hUd25 := (Rg.refl : Rg w23.heap.size wL2.heap.size 0 0 w137 w137)
                                refine PY_a ?_
                                have hP147 := hT.net.inp.1
                                dsimp only at hP147
                                have hT1 : ∀ q, a32 = some q → (w23.heap.size ≤ q.block ∧ q.block < wL2.heap.size) ∧ q.block ≠ b9 ∧ q.block ≠ wL0.heap.size ∧ q.block ≠ gz := hJ9
                                refine PB_m w23.heap.size wL2.heap.size b9 (b9 + 1) w23.heap.size wL2.heap.size 0 0 rfl rfl (ev_append Try.underlying23 el3 rfl (by decide) rfl rfl hP147 (SAt.of_blk (cs := [_]) (ds := []) hB146) rfl (by simp [Value.oneCell']) (by omega) (by unfold maxLen; omega) (by omega)) ?_
                                rintro _ w147 ⟨a147, c147, rfl, hO147, hK147, hQ147⟩
                                have hz147 := hK147.size
                                replace hE := hE.app hK147 (fun q hq => by have h1 := hT1 q hq; omega)
                                replace hRL0 := hRL0.app hK147 (fun q hq => by have h1 := hT1 q hq; omega)
                                replace hRL2 := hRL2.app hK147 (fun q hq => by have h1 := hT1 q hq; omega)
                                replace hSd25 := hSd25.app hK147 (fun q hq => by have h1 := hT1 q hq; omega)
                                replace hUd25 := hUd25.app hK147 (fun q hq => by have h1 := hT1 q hq; omega)
                                replace hB11 := hB11.keep hK147 ⟨hB11.lt, fun q hq => by have h1 := hT1 q hq; omega⟩
                                replace hB9 := hB9.keep hK147 ⟨hB9.lt, fun q hq => by have h1 := hT1 q hq; omega⟩
                                have hP147 := hO147
                                replace hT := hT.pushInp hK147 hO147 rfl hQ147 ⟨by omega, by omega⟩ ⟨by omega, by omega, by omega⟩
                                dsimp only at hT
                                replace hT := hT.to (show _ = (uK A.ends i z (uN A.ends v d i) (k + 1)) from (uK_new hp84).symm) (show _ = (⟨RI A.ends d (uK A.ends i z (uN A.ends v d i) (k + 1)), [], (uK A.ends i z (uN A.ends v d i) (k + 1)).map (inpW A)⟩ : Net) by rw [uK_new hp84, RI_kid hirk, List.map_append, List.map_singleton, kid_inp hl73 hlk (by omega)])
                                refine ⟨fun _ hx => ⟨hSd25.rg hx (by omega), trivial⟩, fun _ hx => ⟨hUd25.rg hx (by omega), trivial⟩, ?_⟩
                                have hSd25 := (Rg.refl : Rg w23.heap.size wL2.heap.size b9 (b9 + 1) w147 w147)
                                have hUd25 := (Rg.refl : Rg w23.heap.size wL2.heap.size 0 0 w147 w147)
                                refine PY_q rfl rfl (fun wq hq => ev_assign rfl) ?_
                                refine PY_q rfl rfl (fun wq hq => ev_fieldAddr fo31_0 rfl) ?_
                                refine PY_z ?_
                                refine PB_s w23.heap.size wL2.heap.size 0 0 w23.heap.size wL2.heap.size 0 0 rfl (ev_store sz29 rfl rfl rfl hB9 (by simp)) ?_
                                rintro _ w25_21 hS25_21
                                have hz25_21 := hS25_21.size
                                replace hE := hE.sto hS25_21 (by omega)
                                replace hRL0 := hRL0.sto hS25_21 (by omega)
                                replace hRL2 := hRL2.sto hS25_21 (by omega)
                                replace hUd25 := hUd25.sto hS25_21 (by omega)
                                replace hB11 := hB11.sto hS25_21 (by omega)
                                replace hT := hT.sto hS25_21 (by omega)
                                replace hB9 : Blk w25_21 _ _ [_, _, _] := hS25_21.blk
                                refine ⟨fun _ _ => trivial, fun _ hx => ⟨hUd25.rg hx (by omega), trivial⟩, ?_⟩
                                have hSd25 := (Rg.refl : Rg w23.heap.size wL2.heap.size 0 0 w25_21 w25_21)
                                have hUd25 := (Rg.refl : Rg w23.heap.size wL2.heap.size 0 0 w25_21 w25_21)
                                refine PY_h rfl rfl (fun wq hq => ev_fieldAddr fo31_2 rfl) ?_
                                refine PY_a ?_
                                refine PB_s w23.heap.size wL2.heap.size 0 0 w23.heap.size wL2.heap.size 0 0 rfl (ev_store sz23 rfl rfl rfl hB9 (by simp)) ?_
                                rintro _ w25_23 hS25_23
                                have hz25_23 := hS25_23.size
                                replace hE := hE.sto hS25_23 (by omega)
                                replace hRL0 := hRL0.sto hS25_23 (by omega)
                                replace hRL2 := hRL2.sto hS25_23 (by omega)
                                replace hUd25 := hUd25.sto hS25_23 (by omega)
                                replace hSd25 := hSd25.sto hS25_23 (by omega)
                                replace hB11 := hB11.sto hS25_23 (by omega)
                                replace hT := hT.sto hS25_23 (by omega)
                                replace hB9 : Blk w25_23 _ _ [_, _, _] := hS25_23.blk
                                refine ⟨fun _ hx => ⟨hSd25.rg hx (by omega), trivial⟩, fun _ hx => ⟨hUd25.rg hx (by omega), trivial⟩, ?_⟩
                                have hSd25 := (Rg.refl : Rg w23.heap.size wL2.heap.size 0 0 w25_23 w25_23)
                                have hUd25 := (Rg.refl : Rg w23.heap.size wL2.heap.size 0 0 w25_23 w25_23)
                                exact PY_nil 22 (a132, c132, a137, c137, a147, c147, vs2 ++ [(some ⟨gz, 0, none⟩, zlW A.ends d (kidW A.ends i z k))]) rfl ⟨lkS rfl hkl1.symm, trivial⟩ rfl ⟨(hT.re ⟨by omega, by omega⟩).up (by omega) (by omega), by rw [hRl1, hIl1]; exact hB9, hB11, hRL2, hRL0, hE⟩
                            · refine PB_m w23.heap.size wL2.heap.size b9 (b9 + 1) w23.heap.size wL2.heap.size 0 0 rfl rfl (ev_lit1 Try.underlying23 el3 (by decide) (by decide) rfl rfl) ?_
                              rintro _ w146 ⟨rfl, hN146⟩
                              have hz146 := hN146.size
                              replace hE := hE.trans hN146.ext
                              replace hRL0 := hRL0.trans hN146.ext
                              replace hRL2 := hRL2.trans hN146.ext
                              replace hSd25 := hSd25.trans hN146.ext
                              replace hUd25 := hUd25.trans hN146.ext
                              replace hB11 := hB11.ext hN146.ext
                              replace hB9 := hB9.ext hN146.ext
                              replace hB13 := hB13.ext hN146.ext
                              replace hB14 := hB14.ext hN146.ext
                              replace hZ := hZ.ext hN146.ext
                              replace hT := hT.ext hN146.ext
                              have hB146 := hN146.blk
                              refine ⟨fun _ hx => ⟨hSd25.rg hx (by omega), trivial⟩, fun _ hx => ⟨hUd25.rg hx (by omega), trivial⟩, ?_⟩
                              have hSd25 := (Rg.refl : Rg w23.heap.size wL2.heap.size b9 (b9 + 1) w146 w146)
                              have hUd25 := (Rg.refl : Rg w23.heap.size wL2.heap.size 0 0 w146 w146)
                              refine PY_a ?_
                              refine PB_m w23.heap.size wL2.heap.size b9 (b9 + 1) w23.heap.size wL2.heap.size 0 0 rfl rfl (ev_lit1 Try.underlying29 el56 (by decide) (by decide) rfl rfl) ?_
                              rintro _ w136 ⟨rfl, hN136⟩
                              have hz136 := hN136.size
                              replace hE := hE.trans hN136.ext
                              replace hRL0 := hRL0.trans hN136.ext
                              replace hRL2 := hRL2.trans hN136.ext
                              replace hSd25 := hSd25.trans hN136.ext
                              replace hUd25 := hUd25.trans hN136.ext
                              replace hB11 := hB11.ext hN136.ext
                              replace hB9 := hB9.ext hN136.ext
                              replace hB13 := hB13.ext hN136.ext
                              replace hB14 := hB14.ext hN136.ext
                              replace hZ := hZ.ext hN136.ext
                              replace hT := hT.ext hN136.ext
                              replace hB146 := hB146.ext hN136.ext
                              have hB136 := hN136.blk
                              refine ⟨fun _ hx => ⟨hSd25.rg hx (by omega), trivial⟩, fun _ hx => ⟨hUd25.rg hx (by omega), trivial⟩, ?_⟩
                              have hSd25 := (Rg.refl : Rg w23.heap.size wL2.heap.size b9 (b9 + 1) w136 w136)
                              have hUd25 := (Rg.refl : Rg w23.heap.size wL2.heap.size 0 0 w136 w136)
                              refine PY_a ?_
                              have hP137 := hT.net.rows.out
                              dsimp only at hP137
                              rw [List.length_set] at hP137
                              have hT1 := hT.o1
                              have hJ9 := hT.o3
                              have hyz := Own.of_front (lo := w23.heap.size) (n := ((zrW A.ends d (kidW A.ends i z k)).set (qFW d (kidW A.ends i z k)).toNat ((i : Int), (k : Int))).length) (c := zlW A.ends d (kidW A.ends i z k)) (sz := 2) (rest := []) (by rw [List.append_nil]; exact hZ) (by omega) (by rw [List.length_set, zrW_len]; exact Nat.le_refl _) hz6 (by rw [List.append_nil, pairCells_length, List.length_set, zrW_len]) (by rw [pairCells_length])
                              refine PB_m w23.heap.size wL2.heap.size b9 (b9 + 1) w23.heap.size wL2.heap.size 0 0 rfl rfl (ev_append Try.underlying29 el56 rfl (by decide) rfl rfl hP137 (SAt.of_blk (cs := [_]) (ds := []) hB136) rfl (by simp [Value.oneCell']) (by omega) (by unfold maxLen; omega) (by omega)) ?_
                              rintro _ w137 ⟨a137, c137, rfl, hO137, hK137, hQ137⟩
                              have hz137 := hK137.size
                              replace hE := hE.app hK137 (fun q hq => by have h1 := hT1 q hq; omega)
                              replace hRL0 := hRL0.app hK137 (fun q hq => by have h1 := hT1 q hq; omega)
                              replace hRL2 := hRL2.app hK137 (fun q hq => by have h1 := hT1 q hq; omega)
                              replace hSd25 := hSd25.app hK137 (fun q hq => by have h1 := hT1 q hq; omega)
                              replace hUd25 := hUd25.app hK137 (fun q hq => by have h1 := hT1 q hq; omega)
                              replace hB11 := hB11.keep hK137 ⟨hB11.lt, fun q hq => by have h1 := hT1 q hq; omega⟩
                              replace hB9 := hB9.keep hK137 ⟨hB9.lt, fun q hq => by have h1 := hT1 q hq; omega⟩
                              replace hB146 := hB146.keep hK137 ⟨hB146.lt, fun q hq => by have h1 := hT1 q hq; omega⟩
                              have hP137 := hO137
                              replace hT := hT.pushRow hyz ⟨by omega, by omega, by omega⟩ hK137 (by rw [List.length_set, zrW_len]; exact hO137) (by rw [List.length_set]) hQ137 ⟨by omega, by omega⟩ ⟨by omega, by omega⟩
                              dsimp only at hT
                              refine ⟨fun _ hx => ⟨hSd25.rg hx (by omega), trivial⟩, fun _ hx => ⟨hUd25.rg hx (by omega), trivial⟩, ?_⟩
                              have hSd25 := (Rg.refl : Rg w23.heap.size wL2.heap.size b9 (b9 + 1) w137 w137)
                              have hUd25 := (Rg.refl : Rg w23.heap.size wL2.heap.size 0 0 w137 w137)
                              refine PY_a ?_
                              have hP147 := hT.net.inp.1
                              dsimp only at hP147
                              have hT1 : ∀ q, a32 = some q → (w23.heap.size ≤ q.block ∧ q.block < wL2.heap.size) ∧ q.block ≠ b9 ∧ q.block ≠ wL0.heap.size ∧ q.block ≠ gz := hJ9
                              refine PB_m w23.heap.size wL2.heap.size b9 (b9 + 1) w23.heap.size wL2.heap.size 0 0 rfl rfl (ev_append Try.underlying23 el3 rfl (by decide) rfl rfl hP147 (SAt.of_blk (cs := [_]) (ds := []) hB146) rfl (by simp [Value.oneCell']) (by omega) (by unfold maxLen; omega) (by omega)) ?_
                              rintro _ w147 ⟨a147, c147, rfl, hO147, hK147, hQ147⟩
                              have hz147 := hK147.size
                              replace hE := hE.app hK147 (fun q hq => by have h1 := hT1 q hq; omega)
                              replace hRL0 := hRL0.app hK147 (fun q hq => by have h1 := hT1 q hq; omega)
                              replace hRL2 := hRL2.app hK147 (fun q hq => by have h1 := hT1 q hq; omega)
                              replace hSd25 := hSd25.app hK147 (fun q hq => by have h1 := hT1 q hq; omega)
                              replace hUd25 := hUd25.app hK147 (fun q hq => by have h1 := hT1 q hq; omega)
                              replace hB11 := hB11.keep hK147 ⟨hB11.lt, fun q hq => by have h1 := hT1 q hq; omega⟩
                              replace hB9 := hB9.keep hK147 ⟨hB9.lt, fun q hq => by have h1 := hT1 q hq; omega⟩
                              have hP147 := hO147
                              replace hT := hT.pushInp hK147 hO147 rfl hQ147 ⟨by omega, by omega⟩ ⟨by omega, by omega, by omega⟩
                              dsimp only at hT
                              replace hT := hT.to (show _ = (uK A.ends i z (uN A.ends v d i) (k + 1)) from (uK_new hp84).symm) (show _ = (⟨RI A.ends d (uK A.ends i z (uN A.ends v d i) (k + 1)), [], (uK A.ends i z (uN A.ends v d i) (k + 1)).map (inpW A)⟩ : Net) by rw [uK_new hp84, RI_kid hirk, List.map_append, List.map_singleton, kid_inp hl73 hlk (by omega)])
                              refine ⟨fun _ hx => ⟨hSd25.rg hx (by omega), trivial⟩, fun _ hx => ⟨hUd25.rg hx (by omega), trivial⟩, ?_⟩
                              have hSd25 := (Rg.refl : Rg w23.heap.size wL2.heap.size b9 (b9 + 1) w147 w147)
                              have hUd25 := (Rg.refl : Rg w23.heap.size wL2.heap.size 0 0 w147 w147)
                              refine PY_q rfl rfl (fun wq hq => ev_assign rfl) ?_
                              refine PY_q rfl rfl (fun wq hq => ev_fieldAddr fo31_0 rfl) ?_
                              refine PY_z ?_
                              refine PB_s w23.heap.size wL2.heap.size 0 0 w23.heap.size wL2.heap.size 0 0 rfl (ev_store sz29 rfl rfl rfl hB9 (by simp)) ?_
                              rintro _ w25_21 hS25_21
                              have hz25_21 := hS25_21.size
                              replace hE := hE.sto hS25_21 (by omega)
                              replace hRL0 := hRL0.sto hS25_21 (by omega)
                              replace hRL2 := hRL2.sto hS25_21 (by omega)
                              replace hUd25 := hUd25.sto hS25_21 (by omega)
                              replace hB11 := hB11.sto hS25_21 (by omega)
                              replace hT := hT.sto hS25_21 (by omega)
                              replace hB9 : Blk w25_21 _ _ [_, _, _] := hS25_21.blk
                              refine ⟨fun _ _ => trivial, fun _ hx => ⟨hUd25.rg hx (by omega), trivial⟩, ?_⟩
                              have hSd25 := (Rg.refl : Rg w23.heap.size wL2.heap.size 0 0 w25_21 w25_21)
                              have hUd25 := (Rg.refl : Rg w23.heap.size wL2.heap.size 0 0 w25_21 w25_21)
                              refine PY_h rfl rfl (fun wq hq => ev_fieldAddr fo31_2 rfl) ?_
                              refine PY_a ?_
                              refine PB_s w23.heap.size wL2.heap.size 0 0 w23.heap.size wL2.heap.size 0 0 rfl (ev_store sz23 rfl rfl rfl hB9 (by simp)) ?_
                              rintro _ w25_23 hS25_23
                              have hz25_23 := hS25_23.size
                              replace hE := hE.sto hS25_23 (by omega)
                              replace hRL0 := hRL0.sto hS25_23 (by omega)
                              replace hRL2 := hRL2.sto hS25_23 (by omega)
                              replace hUd25 := hUd25.sto hS25_23 (by omega)
                              replace hSd25 := hSd25.sto hS25_23 (by omega)
                              replace hB11 := hB11.sto hS25_23 (by omega)
                              replace hT := hT.sto hS25_23 (by omega)
                              replace hB9 : Blk w25_23 _ _ [_, _, _] := hS25_23.blk
                              refine ⟨fun _ hx => ⟨hSd25.rg hx (by omega), trivial⟩, fun _ hx => ⟨hUd25.rg hx (by omega), trivial⟩, ?_⟩
                              have hSd25 := (Rg.refl : Rg w23.heap.size wL2.heap.size 0 0 w25_23 w25_23)
                              have hUd25 := (Rg.refl : Rg w23.heap.size wL2.heap.size 0 0 w25_23 w25_23)
                              exact PY_nil 22 (a132, c132, a137, c137, a147, c147, vs2 ++ [(some ⟨gz, 0, none⟩, zlW A.ends d (kidW A.ends i z k))]) rfl ⟨lkS rfl hkl1.symm, trivial⟩ rfl ⟨(hT.re ⟨by omega, by omega⟩).up (by omega) (by omega), by rw [hRl1, hIl1]; exact hB9, hB11, hRL2, hRL0, hE⟩
                          · refine PB_m w23.heap.size wL2.heap.size b9 (b9 + 1) w23.heap.size wL2.heap.size 0 0 rfl rfl (ev_lit1 Try.underlying29 el56 (by decide) (by decide) rfl rfl) ?_
                            rintro _ w136 ⟨rfl, hN136⟩
                            have hz136 := hN136.size
                            replace hE := hE.trans hN136.ext
                            replace hRL0 := hRL0.trans hN136.ext
                            replace hRL2 := hRL2.trans hN136.ext
                            replace hSd25 := hSd25.trans hN136.ext
                            replace hUd25 := hUd25.trans hN136.ext
                            replace hA := hA.ext hN136.ext
                            replace hB3 := hB3.ext hN136.ext
                            replace hB11 := hB11.ext hN136.ext
                            replace hB9 := hB9.ext hN136.ext
                            replace hB13 := hB13.ext hN136.ext
                            replace hB14 := hB14.ext hN136.ext
                            replace hZ := hZ.ext hN136.ext
                            replace hT := hT.ext hN136.ext
                            replace hB131 := hB131.ext hN136.ext
                            have hB136 := hN136.blk
                            refine ⟨fun _ hx => ⟨hSd25.rg hx (by omega), trivial⟩, fun _ hx => ⟨hUd25.rg hx (by omega), trivial⟩, ?_⟩
                            have hSd25 := (Rg.refl : Rg w23.heap.size wL2.heap.size b9 (b9 + 1) w136 w136)
                            have hUd25 := (Rg.refl : Rg w23.heap.size wL2.heap.size 0 0 w136 w136)
                            refine PY_b ?_ ?_
                            · have hP132 := hT.wks
                              have hgz2 := hZ.lt
                              have hT1 := hT.ow
                              refine PB_m w23.heap.size wL2.heap.size b9 (b9 + 1) w23.heap.size wL2.heap.size 0 0 rfl rfl (ev_append Try.underlying78 el77 rfl (by decide) rfl rfl hP132 (SAt.of_blk (cs := [_, _, _]) (ds := []) hB131) rfl (by simp [Value.oneCell']) (by omega) (by unfold maxLen; omega) (by omega)) ?_
                              rintro _ w132 ⟨a132, c132, rfl, hO132, hK132, hQ132⟩
                              have hz132 := hK132.size
                              replace hE := hE.app hK132 (fun q hq => by have h1 := hT1 q hq; omega)
                              replace hRL0 := hRL0.app hK132 (fun q hq => by have h1 := hT1 q hq; omega)
                              replace hRL2 := hRL2.app hK132 (fun q hq => by have h1 := hT1 q hq; omega)
                              replace hSd25 := hSd25.app hK132 (fun q hq => by have h1 := hT1 q hq; omega)
                              replace hUd25 := hUd25.app hK132 (fun q hq => by have h1 := hT1 q hq; omega)
                              replace hB11 := hB11.keep hK132 ⟨hB11.lt, fun q hq => by have h1 := hT1 q hq; omega⟩
                              replace hB9 := hB9.keep hK132 ⟨hB9.lt, fun q hq => by have h1 := hT1 q hq; omega⟩
                              replace hB13 := hB13.keep hK132 ⟨hB13.lt, fun q hq => by have h1 := hT1 q hq; omega⟩
                              replace hB14 := hB14.keep hK132 ⟨hB14.lt, fun q hq => by have h1 := hT1 q hq; omega⟩
                              replace hZ := hZ.keep hK132 ⟨hZ.lt, fun q hq => by have h1 := hT1 q hq; omega⟩
                              replace hB136 := hB136.keep hK132 ⟨hB136.lt, fun q hq => by have h1 := hT1 q hq; omega⟩
                              have hP132 := hO132
                              replace hT := hT.pushW (z := (kidW A.ends i z k)) hK132 (by rw [hkx.1, hkx.2]; exact hO132) rfl hQ132 ⟨by omega, by omega, by omega⟩
                              refine ⟨fun _ hx => ⟨hSd25.rg hx (by omega), trivial⟩, fun _ hx => ⟨hUd25.rg hx (by omega), trivial⟩, ?_⟩
                              have hSd25 := (Rg.refl : Rg w23.heap.size wL2.heap.size b9 (b9 + 1) w132 w132)
                              have hUd25 := (Rg.refl : Rg w23.heap.size wL2.heap.size 0 0 w132 w132)
                              refine PY_b ?_ ?_
                              · have hP137 := hT.net.rows.out
                                dsimp only at hP137
                                rw [List.length_set] at hP137
                                have hT1 := hT.o1
                                have hJ9 := hT.o3
                                have hyz := Own.of_front (lo := w23.heap.size) (n := ((zrW A.ends d (kidW A.ends i z k)).set (qFW d (kidW A.ends i z k)).toNat ((i : Int), (k : Int))).length) (c := zlW A.ends d (kidW A.ends i z k)) (sz := 2) (rest := []) (by rw [List.append_nil]; exact hZ) (by omega) (by rw [List.length_set, zrW_len]; exact Nat.le_refl _) hz6 (by rw [List.append_nil, pairCells_length, List.length_set, zrW_len]) (by rw [pairCells_length])
                                refine PB_m w23.heap.size wL2.heap.size b9 (b9 + 1) w23.heap.size wL2.heap.size 0 0 rfl rfl (ev_append Try.underlying29 el56 rfl (by decide) rfl rfl hP137 (SAt.of_blk (cs := [_]) (ds := []) hB136) rfl (by simp [Value.oneCell']) (by omega) (by unfold maxLen; omega) (by omega)) ?_
                                rintro _ w137 ⟨a137, c137, rfl, hO137, hK137, hQ137⟩
                                have hz137 := hK137.size
                                replace hE := hE.app hK137 (fun q hq => by have h1 := hT1 q hq; omega)
                                replace hRL0 := hRL0.app hK137 (fun q hq => by have h1 := hT1 q hq; omega)
                                replace hRL2 := hRL2.app hK137 (fun q hq => by have h1 := hT1 q hq; omega)
                                replace hSd25 := hSd25.app hK137 (fun q hq => by have h1 := hT1 q hq; omega)
                                replace hUd25 := hUd25.app hK137 (fun q hq => by have h1 := hT1 q hq; omega)
                                replace hB11 := hB11.keep hK137 ⟨hB11.lt, fun q hq => by have h1 := hT1 q hq; omega⟩
                                replace hB9 := hB9.keep hK137 ⟨hB9.lt, fun q hq => by have h1 := hT1 q hq; omega⟩
                                have hP137 := hO137
                                replace hT := hT.pushRow hyz ⟨by omega, by omega, by omega⟩ hK137 (by rw [List.length_set, zrW_len]; exact hO137) (by rw [List.length_set]) hQ137 ⟨by omega, by omega⟩ ⟨by omega, by omega⟩
                                dsimp only at hT
                                refine ⟨fun _ hx => ⟨hSd25.rg hx (by omega), trivial⟩, fun _ hx => ⟨hUd25.rg hx (by omega), trivial⟩, ?_⟩
                                have hSd25 := (Rg.refl : Rg w23.heap.size wL2.heap.size b9 (b9 + 1) w137 w137)
                                have hUd25 := (Rg.refl : Rg w23.heap.size wL2.heap.size 0 0 w137 w137)
                                refine PY_a ?_
                                refine PB_m w23.heap.size wL2.heap.size b9 (b9 + 1) w23.heap.size wL2.heap.size 0 0 rfl rfl (ev_lit1 Try.underlying23 el3 (by decide) (by decide) rfl rfl) ?_
                                rintro _ w146 ⟨rfl, hN146⟩
                                have hz146 := hN146.size
                                replace hE := hE.trans hN146.ext
                                replace hRL0 := hRL0.trans hN146.ext
                                replace hRL2 := hRL2.trans hN146.ext
                                replace hSd25 := hSd25.trans hN146.ext
                                replace hUd25 := hUd25.trans hN146.ext
                                replace hB11 := hB11.ext hN146.ext
                                replace hB9 := hB9.ext hN146.ext
                                replace hT := hT.ext hN146.ext
                                have hB146 := hN146.blk
                                refine ⟨fun _ hx => ⟨hSd25.rg hx (by omega), trivial⟩, fun _ hx => ⟨hUd25.rg hx (by omega), trivial⟩, ?_⟩
                                have hSd25 := (Rg.refl : Rg w23.heap.size wL2.heap.size b9 (b9 + 1) w146 w146)
                                have hUd25 := (Rg.refl : Rg w23.heap.size wL2.heap.size 0 0 w146 w146)
                                refine PY_a ?_
                                have hP147 := hT.net.inp.1
                                dsimp only at hP147
                                have hT1 : ∀ q, a32 = some q → (w23.heap.size ≤ q.block ∧ q.block < wL2.heap.size) ∧ q.block ≠ b9 ∧ q.block ≠ wL0.heap.size ∧ q.block ≠ gz := hJ9
                                refine PB_m w23.heap.size wL2.heap.size b9 (b9 + 1) w23.heap.size wL2.heap.size 0 0 rfl rfl (ev_append Try.underlying23 el3 rfl (by decide) rfl rfl hP147 (SAt.of_blk (cs := [_]) (ds := []) hB146) rfl (by simp [Value.oneCell']) (by omega) (by unfold maxLen; omega) (by omega)) ?_
                                rintro _ w147 ⟨a147, c147, rfl, hO147, hK147, hQ147⟩
                                have hz147 := hK147.size
                                replace hE := hE.app hK147 (fun q hq => by have h1 := hT1 q hq; omega)
                                replace hRL0 := hRL0.app hK147 (fun q hq => by have h1 := hT1 q hq; omega)
                                replace hRL2 := hRL2.app hK147 (fun q hq => by have h1 := hT1 q hq; omega)
                                replace hSd25 := hSd25.app hK147 (fun q hq => by have h1 := hT1 q hq; omega)
                                replace hUd25 := hUd25.app hK147 (fun q hq => by have h1 := hT1 q hq; omega)
                                replace hB11 := hB11.keep hK147 ⟨hB11.lt, fun q hq => by have h1 := hT1 q hq; omega⟩
                                replace hB9 := hB9.keep hK147 ⟨hB9.lt, fun q hq => by have h1 := hT1 q hq; omega⟩
                                have hP147 := hO147
                                replace hT := hT.pushInp hK147 hO147 rfl hQ147 ⟨by omega, by omega⟩ ⟨by omega, by omega, by omega⟩
                                dsimp only at hT
                                replace hT := hT.to (show _ = (uK A.ends i z (uN A.ends v d i) (k + 1)) from (uK_new hp84).symm) (show _ = (⟨RI A.ends d (uK A.ends i z (uN A.ends v d i) (k + 1)), [], (uK A.ends i z (uN A.ends v d i) (k + 1)).map (inpW A)⟩ : Net) by rw [uK_new hp84, RI_kid hirk, List.map_append, List.map_singleton, kid_inp hl73 hlk (by omega)])
                                refine ⟨fun _ hx => ⟨hSd25.rg hx (by omega), trivial⟩, fun _ hx => ⟨hUd25.rg hx (by omega), trivial⟩, ?_⟩
                                have hSd25 := (Rg.refl : Rg w23.heap.size wL2.heap.size b9 (b9 + 1) w147 w147)
                                have hUd25 := (Rg.refl : Rg w23.heap.size wL2.heap.size 0 0 w147 w147)
                                refine PY_q rfl rfl (fun wq hq => ev_assign rfl) ?_
                                refine PY_q rfl rfl (fun wq hq => ev_fieldAddr fo31_0 rfl) ?_
                                refine PY_z ?_
                                refine PB_s w23.heap.size wL2.heap.size 0 0 w23.heap.size wL2.heap.size 0 0 rfl (ev_store sz29 rfl rfl rfl hB9 (by simp)) ?_
                                rintro _ w25_21 hS25_21
                                have hz25_21 := hS25_21.size
                                replace hE := hE.sto hS25_21 (by omega)
                                replace hRL0 := hRL0.sto hS25_21 (by omega)
                                replace hRL2 := hRL2.sto hS25_21 (by omega)
                                replace hUd25 := hUd25.sto hS25_21 (by omega)
                                replace hB11 := hB11.sto hS25_21 (by omega)
                                replace hT := hT.sto hS25_21 (by omega)
                                replace hB9 : Blk w25_21 _ _ [_, _, _] := hS25_21.blk
                                refine ⟨fun _ _ => trivial, fun _ hx => ⟨hUd25.rg hx (by omega), trivial⟩, ?_⟩
                                have hSd25 := (Rg.refl : Rg w23.heap.size wL2.heap.size 0 0 w25_21 w25_21)
                                have hUd25 := (Rg.refl : Rg w23.heap.size wL2.heap.size 0 0 w25_21 w25_21)
                                refine PY_h rfl rfl (fun wq hq => ev_fieldAddr fo31_2 rfl) ?_
                                refine PY_a ?_
                                refine PB_s w23.heap.size wL2.heap.size 0 0 w23.heap.size wL2.heap.size 0 0 rfl (ev_store sz23 rfl rfl rfl hB9 (by simp)) ?_
                                rintro _ w25_23 hS25_23
                                have hz25_23 := hS25_23.size
                                replace hE := hE.sto hS25_23 (by omega)
                                replace hRL0 := hRL0.sto hS25_23 (by omega)
                                replace hRL2 := hRL2.sto hS25_23 (by omega)
                                replace hUd25 := hUd25.sto hS25_23 (by omega)
                                replace hSd25 := hSd25.sto hS25_23 (by omega)
                                replace hB11 := hB11.sto hS25_23 (by omega)
                                replace hT := hT.sto hS25_23 (by omega)
                                replace hB9 : Blk w25_23 _ _ [_, _, _] := hS25_23.blk
                                refine ⟨fun _ hx => ⟨hSd25.rg hx (by omega), trivial⟩, fun _ hx => ⟨hUd25.rg hx (by omega), trivial⟩, ?_⟩
                                have hSd25 := (Rg.refl : Rg w23.heap.size wL2.heap.size 0 0 w25_23 w25_23)
                                have hUd25 := (Rg.refl : Rg w23.heap.size wL2.heap.size 0 0 w25_23 w25_23)
                                exact PY_nil 22 (a132, c132, a137, c137, a147, c147, vs2 ++ [(some ⟨gz, 0, none⟩, zlW A.ends d (kidW A.ends i z k))]) rfl ⟨lkS rfl hkl1.symm, trivial⟩ rfl ⟨(hT.re ⟨by omega, by omega⟩).up (by omega) (by omega), by rw [hRl1, hIl1]; exact hB9, hB11, hRL2, hRL0, hE⟩
                              · refine PB_m w23.heap.size wL2.heap.size b9 (b9 + 1) w23.heap.size wL2.heap.size 0 0 rfl rfl (ev_lit1 Try.underlying23 el3 (by decide) (by decide) rfl rfl) ?_
                                rintro _ w146 ⟨rfl, hN146⟩
                                have hz146 := hN146.size
                                replace hE := hE.trans hN146.ext
                                replace hRL0 := hRL0.trans hN146.ext
                                replace hRL2 := hRL2.trans hN146.ext
                                replace hSd25 := hSd25.trans hN146.ext
                                replace hUd25 := hUd25.trans hN146.ext
                                replace hB11 := hB11.ext hN146.ext
                                replace hB9 := hB9.ext hN146.ext
                                replace hB13 := hB13.ext hN146.ext
                                replace hB14 := hB14.ext hN146.ext
                                replace hZ := hZ.ext hN146.ext
                                replace hB136 := hB136.ext hN146.ext
                                replace hT := hT.ext hN146.ext
                                have hB146 := hN146.blk
                                refine ⟨fun _ hx => ⟨hSd25.rg hx (by omega), trivial⟩, fun _ hx => ⟨hUd25.rg hx (by omega), trivial⟩, ?_⟩
                                have hSd25 := (Rg.refl : Rg w23.heap.size wL2.heap.size b9 (b9 + 1) w146 w146)
                                have hUd25 := (Rg.refl : Rg w23.heap.size wL2.heap.size 0 0 w146 w146)
                                refine PY_a ?_
                                have hP137 := hT.net.rows.out
                                dsimp only at hP137
                                rw [List.length_set] at hP137
                                have hT1 := hT.o1
                                have hJ9 := hT.o3
                                have hyz := Own.of_front (lo := w23.heap.size) (n := ((zrW A.ends d (kidW A.ends i z k)).set (qFW d (kidW A.ends i z k)).toNat ((i : Int), (k : Int))).length) (c := zlW A.ends d (kidW A.ends i z k)) (sz := 2) (rest := []) (by rw [List.append_nil]; exact hZ) (by omega) (by rw [List.length_set, zrW_len]; exact Nat.le_refl _) hz6 (by rw [List.append_nil, pairCells_length, List.length_set, zrW_len]) (by rw [pairCells_length])
                                refine PB_m w23.heap.size wL2.heap.size b9 (b9 + 1) w23.heap.size wL2.heap.size 0 0 rfl rfl (ev_append Try.underlying29 el56 rfl (by decide) rfl rfl hP137 (SAt.of_blk (cs := [_]) (ds := []) hB136) rfl (by simp [Value.oneCell']) (by omega) (by unfold maxLen; omega) (by omega)) ?_
                                rintro _ w137 ⟨a137, c137, rfl, hO137, hK137, hQ137⟩
                                have hz137 := hK137.size
                                replace hE := hE.app hK137 (fun q hq => by have h1 := hT1 q hq; omega)
                                replace hRL0 := hRL0.app hK137 (fun q hq => by have h1 := hT1 q hq; omega)
                                replace hRL2 := hRL2.app hK137 (fun q hq => by have h1 := hT1 q hq; omega)
                                replace hSd25 := hSd25.app hK137 (fun q hq => by have h1 := hT1 q hq; omega)
                                replace hUd25 := hUd25.app hK137 (fun q hq => by have h1 := hT1 q hq; omega)
                                replace hB11 := hB11.keep hK137 ⟨hB11.lt, fun q hq => by have h1 := hT1 q hq; omega⟩
                                replace hB9 := hB9.keep hK137 ⟨hB9.lt, fun q hq => by have h1 := hT1 q hq; omega⟩
                                replace hB146 := hB146.keep hK137 ⟨hB146.lt, fun q hq => by have h1 := hT1 q hq; omega⟩
                                have hP137 := hO137
                                replace hT := hT.pushRow hyz ⟨by omega, by omega, by omega⟩ hK137 (by rw [List.length_set, zrW_len]; exact hO137) (by rw [List.length_set]) hQ137 ⟨by omega, by omega⟩ ⟨by omega, by omega⟩
                                dsimp only at hT
                                refine ⟨fun _ hx => ⟨hSd25.rg hx (by omega), trivial⟩, fun _ hx => ⟨hUd25.rg hx (by omega), trivial⟩, ?_⟩
                                have hSd25 := (Rg.refl : Rg w23.heap.size wL2.heap.size b9 (b9 + 1) w137 w137)
                                have hUd25 := (Rg.refl : Rg w23.heap.size wL2.heap.size 0 0 w137 w137)
                                refine PY_a ?_
                                have hP147 := hT.net.inp.1
                                dsimp only at hP147
                                have hT1 : ∀ q, a32 = some q → (w23.heap.size ≤ q.block ∧ q.block < wL2.heap.size) ∧ q.block ≠ b9 ∧ q.block ≠ wL0.heap.size ∧ q.block ≠ gz := hJ9
                                refine PB_m w23.heap.size wL2.heap.size b9 (b9 + 1) w23.heap.size wL2.heap.size 0 0 rfl rfl (ev_append Try.underlying23 el3 rfl (by decide) rfl rfl hP147 (SAt.of_blk (cs := [_]) (ds := []) hB146) rfl (by simp [Value.oneCell']) (by omega) (by unfold maxLen; omega) (by omega)) ?_
                                rintro _ w147 ⟨a147, c147, rfl, hO147, hK147, hQ147⟩
                                have hz147 := hK147.size
                                replace hE := hE.app hK147 (fun q hq => by have h1 := hT1 q hq; omega)
                                replace hRL0 := hRL0.app hK147 (fun q hq => by have h1 := hT1 q hq; omega)
                                replace hRL2 := hRL2.app hK147 (fun q hq => by have h1 := hT1 q hq; omega)
                                replace hSd25 := hSd25.app hK147 (fun q hq => by have h1 := hT1 q hq; omega)
                                replace hUd25 := hUd25.app hK147 (fun q hq => by have h1 := hT1 q hq; omega)
                                replace hB11 := hB11.keep hK147 ⟨hB11.lt, fun q hq => by have h1 := hT1 q hq; omega⟩
                                replace hB9 := hB9.keep hK147 ⟨hB9.lt, fun q hq => by have h1 := hT1 q hq; omega⟩
                                have hP147 := hO147
                                replace hT := hT.pushInp hK147 hO147 rfl hQ147 ⟨by omega, by omega⟩ ⟨by omega, by omega, by omega⟩
                                dsimp only at hT
                                replace hT := hT.to (show _ = (uK A.ends i z (uN A.ends v d i) (k + 1)) from (uK_new hp84).symm) (show _ = (⟨RI A.ends d (uK A.ends i z (uN A.ends v d i) (k + 1)), [], (uK A.ends i z (uN A.ends v d i) (k + 1)).map (inpW A)⟩ : Net) by rw [uK_new hp84, RI_kid hirk, List.map_append, List.map_singleton, kid_inp hl73 hlk (by omega)])
                                refine ⟨fun _ hx => ⟨hSd25.rg hx (by omega), trivial⟩, fun _ hx => ⟨hUd25.rg hx (by omega), trivial⟩, ?_⟩
                                have hSd25 := (Rg.refl : Rg w23.heap.size wL2.heap.size b9 (b9 + 1) w147 w147)
                                have hUd25 := (Rg.refl : Rg w23.heap.size wL2.heap.size 0 0 w147 w147)
                                refine PY_q rfl rfl (fun wq hq => ev_assign rfl) ?_
                                refine PY_q rfl rfl (fun wq hq => ev_fieldAddr fo31_0 rfl) ?_
                                refine PY_z ?_
                                refine PB_s w23.heap.size wL2.heap.size 0 0 w23.heap.size wL2.heap.size 0 0 rfl (ev_store sz29 rfl rfl rfl hB9 (by simp)) ?_
                                rintro _ w25_21 hS25_21
                                have hz25_21 := hS25_21.size
                                replace hE := hE.sto hS25_21 (by omega)
                                replace hRL0 := hRL0.sto hS25_21 (by omega)
                                replace hRL2 := hRL2.sto hS25_21 (by omega)
                                replace hUd25 := hUd25.sto hS25_21 (by omega)
                                replace hB11 := hB11.sto hS25_21 (by omega)
                                replace hT := hT.sto hS25_21 (by omega)
                                replace hB9 : Blk w25_21 _ _ [_, _, _] := hS25_21.blk
                                refine ⟨fun _ _ => trivial, fun _ hx => ⟨hUd25.rg hx (by omega), trivial⟩, ?_⟩
                                have hSd25 := (Rg.refl : Rg w23.heap.size wL2.heap.size 0 0 w25_21 w25_21)
                                have hUd25 := (Rg.refl : Rg w23.heap.size wL2.heap.size 0 0 w25_21 w25_21)
                                refine PY_h rfl rfl (fun wq hq => ev_fieldAddr fo31_2 rfl) ?_
                                refine PY_a ?_
                                refine PB_s w23.heap.size wL2.heap.size 0 0 w23.heap.size wL2.heap.size 0 0 rfl (ev_store sz23 rfl rfl rfl hB9 (by simp)) ?_
                                rintro _ w25_23 hS25_23
                                have hz25_23 := hS25_23.size
                                replace hE := hE.sto hS25_23 (by omega)
                                replace hRL0 := hRL0.sto hS25_23 (by omega)
                                replace hRL2 := hRL2.sto hS25_23 (by omega)
                                replace hUd25 := hUd25.sto hS25_23 (by omega)
                                replace hSd25 := hSd25.sto hS25_23 (by omega)
                                replace hB11 := hB11.sto hS25_23 (by omega)
                                replace hT := hT.sto hS25_23 (by omega)
                                replace hB9 : Blk w25_23 _ _ [_, _, _] := hS25_23.blk
                                refine ⟨fun _ hx => ⟨hSd25.rg hx (by omega), trivial⟩, fun _ hx => ⟨hUd25.rg hx (by omega), trivial⟩, ?_⟩
                                have hSd25 := (Rg.refl : Rg w23.heap.size wL2.heap.size 0 0 w25_23 w25_23)
                                have hUd25 := (Rg.refl : Rg w23.heap.size wL2.heap.size 0 0 w25_23 w25_23)
                                exact PY_nil 22 (a132, c132, a137, c137, a147, c147, vs2 ++ [(some ⟨gz, 0, none⟩, zlW A.ends d (kidW A.ends i z k))]) rfl ⟨lkS rfl hkl1.symm, trivial⟩ rfl ⟨(hT.re ⟨by omega, by omega⟩).up (by omega) (by omega), by rw [hRl1, hIl1]; exact hB9, hB11, hRL2, hRL0, hE⟩
                            · refine PB_m w23.heap.size wL2.heap.size b9 (b9 + 1) w23.heap.size wL2.heap.size 0 0 rfl rfl (ev_lit1 Try.underlying23 el3 (by decide) (by decide) rfl rfl) ?_
                              rintro _ w146 ⟨rfl, hN146⟩
                              have hz146 := hN146.size
                              replace hE := hE.trans hN146.ext
                              replace hRL0 := hRL0.trans hN146.ext
                              replace hRL2 := hRL2.trans hN146.ext
                              replace hSd25 := hSd25.trans hN146.ext
                              replace hUd25 := hUd25.trans hN146.ext
                              replace hA := hA.ext hN146.ext
                              replace hB3 := hB3.ext hN146.ext
                              replace hB11 := hB11.ext hN146.ext
                              replace hB9 := hB9.ext hN146.ext
                              replace hB13 := hB13.ext hN146.ext
                              replace hB14 := hB14.ext hN146.ext
                              replace hZ := hZ.ext hN146.ext
                              replace hT := hT.ext hN146.ext
                              replace hB131 := hB131.ext hN146.ext
                              replace hB136 := hB136.ext hN146.ext
                              have hB146 := hN146.blk
                              refine ⟨fun _ hx => ⟨hSd25.rg hx (by omega), trivial⟩, fun _ hx => ⟨hUd25.rg hx (by omega), trivial⟩, ?_⟩
                              have hSd25 := (Rg.refl : Rg w23.heap.size wL2.heap.size b9 (b9 + 1) w146 w146)
                              have hUd25 := (Rg.refl : Rg w23.heap.size wL2.heap.size 0 0 w146 w146)
                              refine PY_a ?_
                              have hP132 := hT.wks
                              have hgz2 := hZ.lt
                              have hT1 := hT.ow
                              refine PB_m w23.heap.size wL2.heap.size b9 (b9 + 1) w23.heap.size wL2.heap.size 0 0 rfl rfl (ev_append Try.underlying78 el77 rfl (by decide) rfl rfl hP132 (SAt.of_blk (cs := [_, _, _]) (ds := []) hB131) rfl (by simp [Value.oneCell']) (by omega) (by unfold maxLen; omega) (by omega)) ?_
                              rintro _ w132 ⟨a132, c132, rfl, hO132, hK132, hQ132⟩
                              have hz132 := hK132.size
                              replace hE := hE.app hK132 (fun q hq => by have h1 := hT1 q hq; omega)
                              replace hRL0 := hRL0.app hK132 (fun q hq => by have h1 := hT1 q hq; omega)
                              replace hRL2 := hRL2.app hK132 (fun q hq => by have h1 := hT1 q hq; omega)
                              replace hSd25 := hSd25.app hK132 (fun q hq => by have h1 := hT1 q hq; omega)
                              replace hUd25 := hUd25.app hK132 (fun q hq => by have h1 := hT1 q hq; omega)
                              replace hB11 := hB11.keep hK132 ⟨hB11.lt, fun q hq => by have h1 := hT1 q hq; omega⟩
                              replace hB9 := hB9.keep hK132 ⟨hB9.lt, fun q hq => by have h1 := hT1 q hq; omega⟩
                              replace hB13 := hB13.keep hK132 ⟨hB13.lt, fun q hq => by have h1 := hT1 q hq; omega⟩
                              replace hB14 := hB14.keep hK132 ⟨hB14.lt, fun q hq => by have h1 := hT1 q hq; omega⟩
                              replace hZ := hZ.keep hK132 ⟨hZ.lt, fun q hq => by have h1 := hT1 q hq; omega⟩
                              replace hB136 := hB136.keep hK132 ⟨hB136.lt, fun q hq => by have h1 := hT1 q hq; omega⟩
                              replace hB146 := hB146.keep hK132 ⟨hB146.lt, fun q hq => by have h1 := hT1 q hq; omega⟩
                              have hP132 := hO132
                              replace hT := hT.pushW (z := (kidW A.ends i z k)) hK132 (by rw [hkx.1, hkx.2]; exact hO132) rfl hQ132 ⟨by omega, by omega, by omega⟩
                              refine ⟨fun _ hx => ⟨hSd25.rg hx (by omega), trivial⟩, fun _ hx => ⟨hUd25.rg hx (by omega), trivial⟩, ?_⟩
                              have hSd25 := (Rg.refl : Rg w23.heap.size wL2.heap.size b9 (b9 + 1) w132 w132)
                              have hUd25 := (Rg.refl : Rg w23.heap.size wL2.heap.size 0 0 w132 w132)
                              refine PY_a ?_
                              have hP137 := hT.net.rows.out
                              dsimp only at hP137
                              rw [List.length_set] at hP137
                              have hT1 := hT.o1
                              have hJ9 := hT.o3
                              have hyz := Own.of_front (lo := w23.heap.size) (n := ((zrW A.ends d (kidW A.ends i z k)).set (qFW d (kidW A.ends i z k)).toNat ((i : Int), (k : Int))).length) (c := zlW A.ends d (kidW A.ends i z k)) (sz := 2) (rest := []) (by rw [List.append_nil]; exact hZ) (by omega) (by rw [List.length_set, zrW_len]; exact Nat.le_refl _) hz6 (by rw [List.append_nil, pairCells_length, List.length_set, zrW_len]) (by rw [pairCells_length])
                              refine PB_m w23.heap.size wL2.heap.size b9 (b9 + 1) w23.heap.size wL2.heap.size 0 0 rfl rfl (ev_append Try.underlying29 el56 rfl (by decide) rfl rfl hP137 (SAt.of_blk (cs := [_]) (ds := []) hB136) rfl (by simp [Value.oneCell']) (by omega) (by unfold maxLen; omega) (by omega)) ?_
                              rintro _ w137 ⟨a137, c137, rfl, hO137, hK137, hQ137⟩
                              have hz137 := hK137.size
                              replace hE := hE.app hK137 (fun q hq => by have h1 := hT1 q hq; omega)
                              replace hRL0 := hRL0.app hK137 (fun q hq => by have h1 := hT1 q hq; omega)
                              replace hRL2 := hRL2.app hK137 (fun q hq => by have h1 := hT1 q hq; omega)
                              replace hSd25 := hSd25.app hK137 (fun q hq => by have h1 := hT1 q hq; omega)
                              replace hUd25 := hUd25.app hK137 (fun q hq => by have h1 := hT1 q hq; omega)
                              replace hB11 := hB11.keep hK137 ⟨hB11.lt, fun q hq => by have h1 := hT1 q hq; omega⟩
                              replace hB9 := hB9.keep hK137 ⟨hB9.lt, fun q hq => by have h1 := hT1 q hq; omega⟩
                              replace hB146 := hB146.keep hK137 ⟨hB146.lt, fun q hq => by have h1 := hT1 q hq; omega⟩
                              have hP137 := hO137
                              replace hT := hT.pushRow hyz ⟨by omega, by omega, by omega⟩ hK137 (by rw [List.length_set, zrW_len]; exact hO137) (by rw [List.length_set]) hQ137 ⟨by omega, by omega⟩ ⟨by omega, by omega⟩
                              dsimp only at hT
                              refine ⟨fun _ hx => ⟨hSd25.rg hx (by omega), trivial⟩, fun _ hx => ⟨hUd25.rg hx (by omega), trivial⟩, ?_⟩
                              have hSd25 := (Rg.refl : Rg w23.heap.size wL2.heap.size b9 (b9 + 1) w137 w137)
                              have hUd25 := (Rg.refl : Rg w23.heap.size wL2.heap.size 0 0 w137 w137)
                              refine PY_a ?_
                              have hP147 := hT.net.inp.1
                              dsimp only at hP147
                              have hT1 : ∀ q, a32 = some q → (w23.heap.size ≤ q.block ∧ q.block < wL2.heap.size) ∧ q.block ≠ b9 ∧ q.block ≠ wL0.heap.size ∧ q.block ≠ gz := hJ9
                              refine PB_m w23.heap.size wL2.heap.size b9 (b9 + 1) w23.heap.size wL2.heap.size 0 0 rfl rfl (ev_append Try.underlying23 el3 rfl (by decide) rfl rfl hP147 (SAt.of_blk (cs := [_]) (ds := []) hB146) rfl (by simp [Value.oneCell']) (by omega) (by unfold maxLen; omega) (by omega)) ?_
                              rintro _ w147 ⟨a147, c147, rfl, hO147, hK147, hQ147⟩
                              have hz147 := hK147.size
                              replace hE := hE.app hK147 (fun q hq => by have h1 := hT1 q hq; omega)
                              replace hRL0 := hRL0.app hK147 (fun q hq => by have h1 := hT1 q hq; omega)
                              replace hRL2 := hRL2.app hK147 (fun q hq => by have h1 := hT1 q hq; omega)
                              replace hSd25 := hSd25.app hK147 (fun q hq => by have h1 := hT1 q hq; omega)
                              replace hUd25 := hUd25.app hK147 (fun q hq => by have h1 := hT1 q hq; omega)
                              replace hB11 := hB11.keep hK147 ⟨hB11.lt, fun q hq => by have h1 := hT1 q hq; omega⟩
                              replace hB9 := hB9.keep hK147 ⟨hB9.lt, fun q hq => by have h1 := hT1 q hq; omega⟩
                              have hP147 := hO147
                              replace hT := hT.pushInp hK147 hO147 rfl hQ147 ⟨by omega, by omega⟩ ⟨by omega, by omega, by omega⟩
                              dsimp only at hT
                              replace hT := hT.to (show _ = (uK A.ends i z (uN A.ends v d i) (k + 1)) from (uK_new hp84).symm) (show _ = (⟨RI A.ends d (uK A.ends i z (uN A.ends v d i) (k + 1)), [], (uK A.ends i z (uN A.ends v d i) (k + 1)).map (inpW A)⟩ : Net) by rw [uK_new hp84, RI_kid hirk, List.map_append, List.map_singleton, kid_inp hl73 hlk (by omega)])
                              refine ⟨fun _ hx => ⟨hSd25.rg hx (by omega), trivial⟩, fun _ hx => ⟨hUd25.rg hx (by omega), trivial⟩, ?_⟩
                              have hSd25 := (Rg.refl : Rg w23.heap.size wL2.heap.size b9 (b9 + 1) w147 w147)
                              have hUd25 := (Rg.refl : Rg w23.heap.size wL2.heap.size 0 0 w147 w147)
                              refine PY_q rfl rfl (fun wq hq => ev_assign rfl) ?_
                              refine PY_q rfl rfl (fun wq hq => ev_fieldAddr fo31_0 rfl) ?_
                              refine PY_z ?_
                              refine PB_s w23.heap.size wL2.heap.size 0 0 w23.heap.size wL2.heap.size 0 0 rfl (ev_store sz29 rfl rfl rfl hB9 (by simp)) ?_
                              rintro _ w25_21 hS25_21
                              have hz25_21 := hS25_21.size
                              replace hE := hE.sto hS25_21 (by omega)
                              replace hRL0 := hRL0.sto hS25_21 (by omega)
                              replace hRL2 := hRL2.sto hS25_21 (by omega)
                              replace hUd25 := hUd25.sto hS25_21 (by omega)
                              replace hB11 := hB11.sto hS25_21 (by omega)
                              replace hT := hT.sto hS25_21 (by omega)
                              replace hB9 : Blk w25_21 _ _ [_, _, _] := hS25_21.blk
                              refine ⟨fun _ _ => trivial, fun _ hx => ⟨hUd25.rg hx (by omega), trivial⟩, ?_⟩
                              have hSd25 := (Rg.refl : Rg w23.heap.size wL2.heap.size 0 0 w25_21 w25_21)
                              have hUd25 := (Rg.refl : Rg w23.heap.size wL2.heap.size 0 0 w25_21 w25_21)
                              refine PY_h rfl rfl (fun wq hq => ev_fieldAddr fo31_2 rfl) ?_
                              refine PY_a ?_
                              refine PB_s w23.heap.size wL2.heap.size 0 0 w23.heap.size wL2.heap.size 0 0 rfl (ev_store sz23 rfl rfl rfl hB9 (by simp)) ?_
                              rintro _ w25_23 hS25_23
                              have hz25_23 := hS25_23.size
                              replace hE := hE.sto hS25_23 (by omega)
                              replace hRL0 := hRL0.sto hS25_23 (by omega)
                              replace hRL2 := hRL2.sto hS25_23 (by omega)
                              replace hUd25 := hUd25.sto hS25_23 (by omega)
                              replace hSd25 := hSd25.sto hS25_23 (by omega)
                              replace hB11 := hB11.sto hS25_23 (by omega)
                              replace hT := hT.sto hS25_23 (by omega)
                              replace hB9 : Blk w25_23 _ _ [_, _, _] := hS25_23.blk
                              refine ⟨fun _ hx => ⟨hSd25.rg hx (by omega), trivial⟩, fun _ hx => ⟨hUd25.rg hx (by omega), trivial⟩, ?_⟩
                              have hSd25 := (Rg.refl : Rg w23.heap.size wL2.heap.size 0 0 w25_23 w25_23)
                              have hUd25 := (Rg.refl : Rg w23.heap.size wL2.heap.size 0 0 w25_23 w25_23)
                              exact PY_nil 22 (a132, c132, a137, c137, a147, c147, vs2 ++ [(some ⟨gz, 0, none⟩, zlW A.ends d (kidW A.ends i z k))]) rfl ⟨lkS rfl hkl1.symm, trivial⟩ rfl ⟨(hT.re ⟨by omega, by omega⟩).up (by omega) (by omega), by rw [hRl1, hIl1]; exact hB9, hB11, hRL2, hRL0, hE⟩
                          · refine PB_m w23.heap.size wL2.heap.size b9 (b9 + 1) w23.heap.size wL2.heap.size 0 0 rfl rfl (ev_lit1 Try.underlying23 el3 (by decide) (by decide) rfl rfl) ?_
                            rintro _ w146 ⟨rfl, hN146⟩
                            have hz146 := hN146.size
                            replace hE := hE.trans hN146.ext
                            replace hRL0 := hRL0.trans hN146.ext
                            replace hRL2 := hRL2.trans hN146.ext
                            replace hSd25 := hSd25.trans hN146.ext
                            replace hUd25 := hUd25.trans hN146.ext
                            replace hA := hA.ext hN146.ext
                            replace hB3 := hB3.ext hN146.ext
                            replace hB11 := hB11.ext hN146.ext
                            replace hB9 := hB9.ext hN146.ext
                            replace hB13 := hB13.ext hN146.ext
                            replace hB14 := hB14.ext hN146.ext
                            replace hZ := hZ.ext hN146.ext
                            replace hT := hT.ext hN146.ext
                            replace hB131 := hB131.ext hN146.ext
                            have hB146 := hN146.blk
                            refine ⟨fun _ hx => ⟨hSd25.rg hx (by omega), trivial⟩, fun _ hx => ⟨hUd25.rg hx (by omega), trivial⟩, ?_⟩
                            have hSd25 := (Rg.refl : Rg w23.heap.size wL2.heap.size b9 (b9 + 1) w146 w146)
                            have hUd25 := (Rg.refl : Rg w23.heap.size wL2.heap.size 0 0 w146 w146)
                            refine PY_b ?_ ?_
                            · have hP132 := hT.wks
                              have hgz2 := hZ.lt
                              have hT1 := hT.ow
                              refine PB_m w23.heap.size wL2.heap.size b9 (b9 + 1) w23.heap.size wL2.heap.size 0 0 rfl rfl (ev_append Try.underlying78 el77 rfl (by decide) rfl rfl hP132 (SAt.of_blk (cs := [_, _, _]) (ds := []) hB131) rfl (by simp [Value.oneCell']) (by omega) (by unfold maxLen; omega) (by omega)) ?_
                              rintro _ w132 ⟨a132, c132, rfl, hO132, hK132, hQ132⟩
                              have hz132 := hK132.size
                              replace hE := hE.app hK132 (fun q hq => by have h1 := hT1 q hq; omega)
                              replace hRL0 := hRL0.app hK132 (fun q hq => by have h1 := hT1 q hq; omega)
                              replace hRL2 := hRL2.app hK132 (fun q hq => by have h1 := hT1 q hq; omega)
                              replace hSd25 := hSd25.app hK132 (fun q hq => by have h1 := hT1 q hq; omega)
                              replace hUd25 := hUd25.app hK132 (fun q hq => by have h1 := hT1 q hq; omega)
                              replace hB11 := hB11.keep hK132 ⟨hB11.lt, fun q hq => by have h1 := hT1 q hq; omega⟩
                              replace hB9 := hB9.keep hK132 ⟨hB9.lt, fun q hq => by have h1 := hT1 q hq; omega⟩
                              replace hB13 := hB13.keep hK132 ⟨hB13.lt, fun q hq => by have h1 := hT1 q hq; omega⟩
                              replace hB14 := hB14.keep hK132 ⟨hB14.lt, fun q hq => by have h1 := hT1 q hq; omega⟩
                              replace hZ := hZ.keep hK132 ⟨hZ.lt, fun q hq => by have h1 := hT1 q hq; omega⟩
                              replace hB146 := hB146.keep hK132 ⟨hB146.lt, fun q hq => by have h1 := hT1 q hq; omega⟩
                              have hP132 := hO132
                              replace hT := hT.pushW (z := (kidW A.ends i z k)) hK132 (by rw [hkx.1, hkx.2]; exact hO132) rfl hQ132 ⟨by omega, by omega, by omega⟩
                              refine ⟨fun _ hx => ⟨hSd25.rg hx (by omega), trivial⟩, fun _ hx => ⟨hUd25.rg hx (by omega), trivial⟩, ?_⟩
                              have hSd25 := (Rg.refl : Rg w23.heap.size wL2.heap.size b9 (b9 + 1) w132 w132)
                              have hUd25 := (Rg.refl : Rg w23.heap.size wL2.heap.size 0 0 w132 w132)
                              refine PY_a ?_
                              refine PB_m w23.heap.size wL2.heap.size b9 (b9 + 1) w23.heap.size wL2.heap.size 0 0 rfl rfl (ev_lit1 Try.underlying29 el56 (by decide) (by decide) rfl rfl) ?_
                              rintro _ w136 ⟨rfl, hN136⟩
                              have hz136 := hN136.size
                              replace hE := hE.trans hN136.ext
                              replace hRL0 := hRL0.trans hN136.ext
                              replace hRL2 := hRL2.trans hN136.ext
                              replace hSd25 := hSd25.trans hN136.ext
                              replace hUd25 := hUd25.trans hN136.ext
                              replace hB11 := hB11.ext hN136.ext
                              replace hB9 := hB9.ext hN136.ext
                              replace hB13 := hB13.ext hN136.ext
                              replace hB14 := hB14.ext hN136.ext
                              replace hZ := hZ.ext hN136.ext
                              replace hB146 := hB146.ext hN136.ext
                              replace hT := hT.ext hN136.ext
                              have hB136 := hN136.blk
                              refine ⟨fun _ hx => ⟨hSd25.rg hx (by omega), trivial⟩, fun _ hx => ⟨hUd25.rg hx (by omega), trivial⟩, ?_⟩
                              have hSd25 := (Rg.refl : Rg w23.heap.size wL2.heap.size b9 (b9 + 1) w136 w136)
                              have hUd25 := (Rg.refl : Rg w23.heap.size wL2.heap.size 0 0 w136 w136)
                              refine PY_a ?_
                              have hP137 := hT.net.rows.out
                              dsimp only at hP137
                              rw [List.length_set] at hP137
                              have hT1 := hT.o1
                              have hJ9 := hT.o3
                              have hyz := Own.of_front (lo := w23.heap.size) (n := ((zrW A.ends d (kidW A.ends i z k)).set (qFW d (kidW A.ends i z k)).toNat ((i : Int), (k : Int))).length) (c := zlW A.ends d (kidW A.ends i z k)) (sz := 2) (rest := []) (by rw [List.append_nil]; exact hZ) (by omega) (by rw [List.length_set, zrW_len]; exact Nat.le_refl _) hz6 (by rw [List.append_nil, pairCells_length, List.length_set, zrW_len]) (by rw [pairCells_length])
                              refine PB_m w23.heap.size wL2.heap.size b9 (b9 + 1) w23.heap.size wL2.heap.size 0 0 rfl rfl (ev_append Try.underlying29 el56 rfl (by decide) rfl rfl hP137 (SAt.of_blk (cs := [_]) (ds := []) hB136) rfl (by simp [Value.oneCell']) (by omega) (by unfold maxLen; omega) (by omega)) ?_
                              rintro _ w137 ⟨a137, c137, rfl, hO137, hK137, hQ137⟩
                              have hz137 := hK137.size
                              replace hE := hE.app hK137 (fun q hq => by have h1 := hT1 q hq; omega)
                              replace hRL0 := hRL0.app hK137 (fun q hq => by have h1 := hT1 q hq; omega)
                              replace hRL2 := hRL2.app hK137 (fun q hq => by have h1 := hT1 q hq; omega)
                              replace hSd25 := hSd25.app hK137 (fun q hq => by have h1 := hT1 q hq; omega)
                              replace hUd25 := hUd25.app hK137 (fun q hq => by have h1 := hT1 q hq; omega)
                              replace hB11 := hB11.keep hK137 ⟨hB11.lt, fun q hq => by have h1 := hT1 q hq; omega⟩
                              replace hB9 := hB9.keep hK137 ⟨hB9.lt, fun q hq => by have h1 := hT1 q hq; omega⟩
                              replace hB146 := hB146.keep hK137 ⟨hB146.lt, fun q hq => by have h1 := hT1 q hq; omega⟩
                              have hP137 := hO137
                              replace hT := hT.pushRow hyz ⟨by omega, by omega, by omega⟩ hK137 (by rw [List.length_set, zrW_len]; exact hO137) (by rw [List.length_set]) hQ137 ⟨by omega, by omega⟩ ⟨by omega, by omega⟩
                              dsimp only at hT
                              refine ⟨fun _ hx => ⟨hSd25.rg hx (by omega), trivial⟩, fun _ hx => ⟨hUd25.rg hx (by omega), trivial⟩, ?_⟩
                              have hSd25 := (Rg.refl : Rg w23.heap.size wL2.heap.size b9 (b9 + 1) w137 w137)
                              have hUd25 := (Rg.refl : Rg w23.heap.size wL2.heap.size 0 0 w137 w137)
                              refine PY_a ?_
                              have hP147 := hT.net.inp.1
                              dsimp only at hP147
                              have hT1 : ∀ q, a32 = some q → (w23.heap.size ≤ q.block ∧ q.block < wL2.heap.size) ∧ q.block ≠ b9 ∧ q.block ≠ wL0.heap.size ∧ q.block ≠ gz := hJ9
                              refine PB_m w23.heap.size wL2.heap.size b9 (b9 + 1) w23.heap.size wL2.heap.size 0 0 rfl rfl (ev_append Try.underlying23 el3 rfl (by decide) rfl rfl hP147 (SAt.of_blk (cs := [_]) (ds := []) hB146) rfl (by simp [Value.oneCell']) (by omega) (by unfold maxLen; omega) (by omega)) ?_
                              rintro _ w147 ⟨a147, c147, rfl, hO147, hK147, hQ147⟩
                              have hz147 := hK147.size
                              replace hE := hE.app hK147 (fun q hq => by have h1 := hT1 q hq; omega)
                              replace hRL0 := hRL0.app hK147 (fun q hq => by have h1 := hT1 q hq; omega)
                              replace hRL2 := hRL2.app hK147 (fun q hq => by have h1 := hT1 q hq; omega)
                              replace hSd25 := hSd25.app hK147 (fun q hq => by have h1 := hT1 q hq; omega)
                              replace hUd25 := hUd25.app hK147 (fun q hq => by have h1 := hT1 q hq; omega)
                              replace hB11 := hB11.keep hK147 ⟨hB11.lt, fun q hq => by have h1 := hT1 q hq; omega⟩
                              replace hB9 := hB9.keep hK147 ⟨hB9.lt, fun q hq => by have h1 := hT1 q hq; omega⟩
                              have hP147 := hO147
                              replace hT := hT.pushInp hK147 hO147 rfl hQ147 ⟨by omega, by omega⟩ ⟨by omega, by omega, by omega⟩
                              dsimp only at hT
                              replace hT := hT.to (show _ = (uK A.ends i z (uN A.ends v d i) (k + 1)) from (uK_new hp84).symm) (show _ = (⟨RI A.ends d (uK A.ends i z (uN A.ends v d i) (k + 1)), [], (uK A.ends i z (uN A.ends v d i) (k + 1)).map (inpW A)⟩ : Net) by rw [uK_new hp84, RI_kid hirk, List.map_append, List.map_singleton, kid_inp hl73 hlk (by omega)])
                              refine ⟨fun _ hx => ⟨hSd25.rg hx (by omega), trivial⟩, fun _ hx => ⟨hUd25.rg hx (by omega), trivial⟩, ?_⟩
                              have hSd25 := (Rg.refl : Rg w23.heap.size wL2.heap.size b9 (b9 + 1) w147 w147)
                              have hUd25 := (Rg.refl : Rg w23.heap.size wL2.heap.size 0 0 w147 w147)
                              refine PY_q rfl rfl (fun wq hq => ev_assign rfl) ?_
                              refine PY_q rfl rfl (fun wq hq => ev_fieldAddr fo31_0 rfl) ?_
                              refine PY_z ?_
                              refine PB_s w23.heap.size wL2.heap.size 0 0 w23.heap.size wL2.heap.size 0 0 rfl (ev_store sz29 rfl rfl rfl hB9 (by simp)) ?_
                              rintro _ w25_21 hS25_21
                              have hz25_21 := hS25_21.size
                              replace hE := hE.sto hS25_21 (by omega)
                              replace hRL0 := hRL0.sto hS25_21 (by omega)
                              replace hRL2 := hRL2.sto hS25_21 (by omega)
                              replace hUd25 := hUd25.sto hS25_21 (by omega)
                              replace hB11 := hB11.sto hS25_21 (by omega)
                              replace hT := hT.sto hS25_21 (by omega)
                              replace hB9 : Blk w25_21 _ _ [_, _, _] := hS25_21.blk
                              refine ⟨fun _ _ => trivial, fun _ hx => ⟨hUd25.rg hx (by omega), trivial⟩, ?_⟩
                              have hSd25 := (Rg.refl : Rg w23.heap.size wL2.heap.size 0 0 w25_21 w25_21)
                              have hUd25 := (Rg.refl : Rg w23.heap.size wL2.heap.size 0 0 w25_21 w25_21)
                              refine PY_h rfl rfl (fun wq hq => ev_fieldAddr fo31_2 rfl) ?_
                              refine PY_a ?_
                              refine PB_s w23.heap.size wL2.heap.size 0 0 w23.heap.size wL2.heap.size 0 0 rfl (ev_store sz23 rfl rfl rfl hB9 (by simp)) ?_
                              rintro _ w25_23 hS25_23
                              have hz25_23 := hS25_23.size
                              replace hE := hE.sto hS25_23 (by omega)
                              replace hRL0 := hRL0.sto hS25_23 (by omega)
                              replace hRL2 := hRL2.sto hS25_23 (by omega)
                              replace hUd25 := hUd25.sto hS25_23 (by omega)
                              replace hSd25 := hSd25.sto hS25_23 (by omega)
                              replace hB11 := hB11.sto hS25_23 (by omega)
                              replace hT := hT.sto hS25_23 (by omega)
                              replace hB9 : Blk w25_23 _ _ [_, _, _] := hS25_23.blk
                              refine ⟨fun _ hx => ⟨hSd25.rg hx (by omega), trivial⟩, fun _ hx => ⟨hUd25.rg hx (by omega), trivial⟩, ?_⟩
                              have hSd25 := (Rg.refl : Rg w23.heap.size wL2.heap.size 0 0 w25_23 w25_23)
                              have hUd25 := (Rg.refl : Rg w23.heap.size wL2.heap.size 0 0 w25_23 w25_23)
                              exact PY_nil 22 (a132, c132, a137, c137, a147, c147, vs2 ++ [(some ⟨gz, 0, none⟩, zlW A.ends d (kidW A.ends i z k))]) rfl ⟨lkS rfl hkl1.symm, trivial⟩ rfl ⟨(hT.re ⟨by omega, by omega⟩).up (by omega) (by omega), by rw [hRl1, hIl1]; exact hB9, hB11, hRL2, hRL0, hE⟩
                            · refine PB_m w23.heap.size wL2.heap.size b9 (b9 + 1) w23.heap.size wL2.heap.size 0 0 rfl rfl (ev_lit1 Try.underlying29 el56 (by decide) (by decide) rfl rfl) ?_
                              rintro _ w136 ⟨rfl, hN136⟩
                              have hz136 := hN136.size
                              replace hE := hE.trans hN136.ext
                              replace hRL0 := hRL0.trans hN136.ext
                              replace hRL2 := hRL2.trans hN136.ext
                              replace hSd25 := hSd25.trans hN136.ext
                              replace hUd25 := hUd25.trans hN136.ext
                              replace hA := hA.ext hN136.ext
                              replace hB3 := hB3.ext hN136.ext
                              replace hB11 := hB11.ext hN136.ext
                              replace hB9 := hB9.ext hN136.ext
                              replace hB13 := hB13.ext hN136.ext
                              replace hB14 := hB14.ext hN136.ext
                              replace hZ := hZ.ext hN136.ext
                              replace hT := hT.ext hN136.ext
                              replace hB131 := hB131.ext hN136.ext
                              replace hB146 := hB146.ext hN136.ext
                              have hB136 := hN136.blk
                              refine ⟨fun _ hx => ⟨hSd25.rg hx (by omega), trivial⟩, fun _ hx => ⟨hUd25.rg hx (by omega), trivial⟩, ?_⟩
                              have hSd25 := (Rg.refl : Rg w23.heap.size wL2.heap.size b9 (b9 + 1) w136 w136)
                              have hUd25 := (Rg.refl : Rg w23.heap.size wL2.heap.size 0 0 w136 w136)
                              refine PY_a ?_
                              have hP132 := hT.wks
                              have hgz2 := hZ.lt
                              have hT1 := hT.ow
                              refine PB_m w23.heap.size wL2.heap.size b9 (b9 + 1) w23.heap.size wL2.heap.size 0 0 rfl rfl (ev_append Try.underlying78 el77 rfl (by decide) rfl rfl hP132 (SAt.of_blk (cs := [_, _, _]) (ds := []) hB131) rfl (by simp [Value.oneCell']) (by omega) (by unfold maxLen; omega) (by omega)) ?_
                              rintro _ w132 ⟨a132, c132, rfl, hO132, hK132, hQ132⟩
                              have hz132 := hK132.size
                              replace hE := hE.app hK132 (fun q hq => by have h1 := hT1 q hq; omega)
                              replace hRL0 := hRL0.app hK132 (fun q hq => by have h1 := hT1 q hq; omega)
                              replace hRL2 := hRL2.app hK132 (fun q hq => by have h1 := hT1 q hq; omega)
                              replace hSd25 := hSd25.app hK132 (fun q hq => by have h1 := hT1 q hq; omega)
                              replace hUd25 := hUd25.app hK132 (fun q hq => by have h1 := hT1 q hq; omega)
                              replace hB11 := hB11.keep hK132 ⟨hB11.lt, fun q hq => by have h1 := hT1 q hq; omega⟩
                              replace hB9 := hB9.keep hK132 ⟨hB9.lt, fun q hq => by have h1 := hT1 q hq; omega⟩
                              replace hB13 := hB13.keep hK132 ⟨hB13.lt, fun q hq => by have h1 := hT1 q hq; omega⟩
                              replace hB14 := hB14.keep hK132 ⟨hB14.lt, fun q hq => by have h1 := hT1 q hq; omega⟩
                              replace hZ := hZ.keep hK132 ⟨hZ.lt, fun q hq => by have h1 := hT1 q hq; omega⟩
                              replace hB146 := hB146.keep hK132 ⟨hB146.lt, fun q hq => by have h1 := hT1 q hq; omega⟩
                              replace hB136 := hB136.keep hK132 ⟨hB136.lt, fun q hq => by have h1 := hT1 q hq; omega⟩
                              have hP132 := hO132
                              replace hT := hT.pushW (z := (kidW A.ends i z k)) hK132 (by rw [hkx.1, hkx.2]; exact hO132) rfl hQ132 ⟨by omega, by omega, by omega⟩
                              refine ⟨fun _ hx => ⟨hSd25.rg hx (by omega), trivial⟩, fun _ hx => ⟨hUd25.rg hx (by omega), trivial⟩, ?_⟩
                              have hSd25 := (Rg.refl : Rg w23.heap.size wL2.heap.size b9 (b9 + 1) w132 w132)
                              have hUd25 := (Rg.refl : Rg w23.heap.size wL2.heap.size 0 0 w132 w132)
                              refine PY_a ?_
                              have hP137 := hT.net.rows.out
                              dsimp only at hP137
                              rw [List.length_set] at hP137
                              have hT1 := hT.o1
                              have hJ9 := hT.o3
                              have hyz := Own.of_front (lo := w23.heap.size) (n := ((zrW A.ends d (kidW A.ends i z k)).set (qFW d (kidW A.ends i z k)).toNat ((i : Int), (k : Int))).length) (c := zlW A.ends d (kidW A.ends i z k)) (sz := 2) (rest := []) (by rw [List.append_nil]; exact hZ) (by omega) (by rw [List.length_set, zrW_len]; exact Nat.le_refl _) hz6 (by rw [List.append_nil, pairCells_length, List.length_set, zrW_len]) (by rw [pairCells_length])
                              refine PB_m w23.heap.size wL2.heap.size b9 (b9 + 1) w23.heap.size wL2.heap.size 0 0 rfl rfl (ev_append Try.underlying29 el56 rfl (by decide) rfl rfl hP137 (SAt.of_blk (cs := [_]) (ds := []) hB136) rfl (by simp [Value.oneCell']) (by omega) (by unfold maxLen; omega) (by omega)) ?_
                              rintro _ w137 ⟨a137, c137, rfl, hO137, hK137, hQ137⟩
                              have hz137 := hK137.size
                              replace hE := hE.app hK137 (fun q hq => by have h1 := hT1 q hq; omega)
                              replace hRL0 := hRL0.app hK137 (fun q hq => by have h1 := hT1 q hq; omega)
                              replace hRL2 := hRL2.app hK137 (fun q hq => by have h1 := hT1 q hq; omega)
                              replace hSd25 := hSd25.app hK137 (fun q hq => by have h1 := hT1 q hq; omega)
                              replace hUd25 := hUd25.app hK137 (fun q hq => by have h1 := hT1 q hq; omega)
                              replace hB11 := hB11.keep hK137 ⟨hB11.lt, fun q hq => by have h1 := hT1 q hq; omega⟩
                              replace hB9 := hB9.keep hK137 ⟨hB9.lt, fun q hq => by have h1 := hT1 q hq; omega⟩
                              replace hB146 := hB146.keep hK137 ⟨hB146.lt, fun q hq => by have h1 := hT1 q hq; omega⟩
                              have hP137 := hO137
                              replace hT := hT.pushRow hyz ⟨by omega, by omega, by omega⟩ hK137 (by rw [List.length_set, zrW_len]; exact hO137) (by rw [List.length_set]) hQ137 ⟨by omega, by omega⟩ ⟨by omega, by omega⟩
                              dsimp only at hT
                              refine ⟨fun _ hx => ⟨hSd25.rg hx (by omega), trivial⟩, fun _ hx => ⟨hUd25.rg hx (by omega), trivial⟩, ?_⟩
                              have hSd25 := (Rg.refl : Rg w23.heap.size wL2.heap.size b9 (b9 + 1) w137 w137)
                              have hUd25 := (Rg.refl : Rg w23.heap.size wL2.heap.size 0 0 w137 w137)
                              refine PY_a ?_
                              have hP147 := hT.net.inp.1
                              dsimp only at hP147
                              have hT1 : ∀ q, a32 = some q → (w23.heap.size ≤ q.block ∧ q.block < wL2.heap.size) ∧ q.block ≠ b9 ∧ q.block ≠ wL0.heap.size ∧ q.block ≠ gz := hJ9
                              refine PB_m w23.heap.size wL2.heap.size b9 (b9 + 1) w23.heap.size wL2.heap.size 0 0 rfl rfl (ev_append Try.underlying23 el3 rfl (by decide) rfl rfl hP147 (SAt.of_blk (cs := [_]) (ds := []) hB146) rfl (by simp [Value.oneCell']) (by omega) (by unfold maxLen; omega) (by omega)) ?_
                              rintro _ w147 ⟨a147, c147, rfl, hO147, hK147, hQ147⟩
                              have hz147 := hK147.size
                              replace hE := hE.app hK147 (fun q hq => by have h1 := hT1 q hq; omega)
                              replace hRL0 := hRL0.app hK147 (fun q hq => by have h1 := hT1 q hq; omega)
                              replace hRL2 := hRL2.app hK147 (fun q hq => by have h1 := hT1 q hq; omega)
                              replace hSd25 := hSd25.app hK147 (fun q hq => by have h1 := hT1 q hq; omega)
                              replace hUd25 := hUd25.app hK147 (fun q hq => by have h1 := hT1 q hq; omega)
                              replace hB11 := hB11.keep hK147 ⟨hB11.lt, fun q hq => by have h1 := hT1 q hq; omega⟩
                              replace hB9 := hB9.keep hK147 ⟨hB9.lt, fun q hq => by have h1 := hT1 q hq; omega⟩
                              have hP147 := hO147
                              replace hT := hT.pushInp hK147 hO147 rfl hQ147 ⟨by omega, by omega⟩ ⟨by omega, by omega, by omega⟩
                              dsimp only at hT
                              replace hT := hT.to (show _ = (uK A.ends i z (uN A.ends v d i) (k + 1)) from (uK_new hp84).symm) (show _ = (⟨RI A.ends d (uK A.ends i z (uN A.ends v d i) (k + 1)), [], (uK A.ends i z (uN A.ends v d i) (k + 1)).map (inpW A)⟩ : Net) by rw [uK_new hp84, RI_kid hirk, List.map_append, List.map_singleton, kid_inp hl73 hlk (by omega)])
                              refine ⟨fun _ hx => ⟨hSd25.rg hx (by omega), trivial⟩, fun _ hx => ⟨hUd25.rg hx (by omega), trivial⟩, ?_⟩
                              have hSd25 := (Rg.refl : Rg w23.heap.size wL2.heap.size b9 (b9 + 1) w147 w147)
                              have hUd25 := (Rg.refl : Rg w23.heap.size wL2.heap.size 0 0 w147 w147)
                              refine PY_q rfl rfl (fun wq hq => ev_assign rfl) ?_
                              refine PY_q rfl rfl (fun wq hq => ev_fieldAddr fo31_0 rfl) ?_
                              refine PY_z ?_
                              refine PB_s w23.heap.size wL2.heap.size 0 0 w23.heap.size wL2.heap.size 0 0 rfl (ev_store sz29 rfl rfl rfl hB9 (by simp)) ?_
                              rintro _ w25_21 hS25_21
                              have hz25_21 := hS25_21.size
                              replace hE := hE.sto hS25_21 (by omega)
                              replace hRL0 := hRL0.sto hS25_21 (by omega)
                              replace hRL2 := hRL2.sto hS25_21 (by omega)
                              replace hUd25 := hUd25.sto hS25_21 (by omega)
                              replace hB11 := hB11.sto hS25_21 (by omega)
                              replace hT := hT.sto hS25_21 (by omega)
                              replace hB9 : Blk w25_21 _ _ [_, _, _] := hS25_21.blk
                              refine ⟨fun _ _ => trivial, fun _ hx => ⟨hUd25.rg hx (by omega), trivial⟩, ?_⟩
                              have hSd25 := (Rg.refl : Rg w23.heap.size wL2.heap.size 0 0 w25_21 w25_21)
                              have hUd25 := (Rg.refl : Rg w23.heap.size wL2.heap.size 0 0 w25_21 w25_21)
                              refine PY_h rfl rfl (fun wq hq => ev_fieldAddr fo31_2 rfl) ?_
                              refine PY_a ?_
                              refine PB_s w23.heap.size wL2.heap.size 0 0 w23.heap.size wL2.heap.size 0 0 rfl (ev_store sz23 rfl rfl rfl hB9 (by simp)) ?_
                              rintro _ w25_23 hS25_23
                              have hz25_23 := hS25_23.size
                              replace hE := hE.sto hS25_23 (by omega)
                              replace hRL0 := hRL0.sto hS25_23 (by omega)
                              replace hRL2 := hRL2.sto hS25_23 (by omega)
                              replace hUd25 := hUd25.sto hS25_23 (by omega)
                              replace hSd25 := hSd25.sto hS25_23 (by omega)
                              replace hB11 := hB11.sto hS25_23 (by omega)
                              replace hT := hT.sto hS25_23 (by omega)
                              replace hB9 : Blk w25_23 _ _ [_, _, _] := hS25_23.blk
                              refine ⟨fun _ hx => ⟨hSd25.rg hx (by omega), trivial⟩, fun _ hx => ⟨hUd25.rg hx (by omega), trivial⟩, ?_⟩
                              have hSd25 := (Rg.refl : Rg w23.heap.size wL2.heap.size 0 0 w25_23 w25_23)
                              have hUd25 := (Rg.refl : Rg w23.heap.size wL2.heap.size 0 0 w25_23 w25_23)
                              exact PY_nil 22 (a132, c132, a137, c137, a147, c147, vs2 ++ [(some ⟨gz, 0, none⟩, zlW A.ends d (kidW A.ends i z k))]) rfl ⟨lkS rfl hkl1.symm, trivial⟩ rfl ⟨(hT.re ⟨by omega, by omega⟩).up (by omega) (by omega), by rw [hRl1, hIl1]; exact hB9, hB11, hRL2, hRL0, hE⟩
                        · refine PB_m w23.heap.size wL2.heap.size b9 (b9 + 1) w23.heap.size wL2.heap.size 0 0 rfl rfl (ev_lit1 Try.underlying29 el56 (by decide) (by decide) rfl rfl) ?_
                          rintro _ w136 ⟨rfl, hN136⟩
                          have hz136 := hN136.size
                          replace hE := hE.trans hN136.ext
                          replace hRL0 := hRL0.trans hN136.ext
                          replace hRL2 := hRL2.trans hN136.ext
                          replace hSd25 := hSd25.trans hN136.ext
                          replace hUd25 := hUd25.trans hN136.ext
                          replace hA := hA.ext hN136.ext
                          replace hB3 := hB3.ext hN136.ext
                          replace hB11 := hB11.ext hN136.ext
                          replace hB9 := hB9.ext hN136.ext
                          replace hB13 := hB13.ext hN136.ext
                          replace hB14 := hB14.ext hN136.ext
                          replace hZ := hZ.ext hN136.ext
                          replace hT := hT.ext hN136.ext
                          have hB136 := hN136.blk
                          refine ⟨fun _ hx => ⟨hSd25.rg hx (by omega), trivial⟩, fun _ hx => ⟨hUd25.rg hx (by omega), trivial⟩, ?_⟩
                          have hSd25 := (Rg.refl : Rg w23.heap.size wL2.heap.size b9 (b9 + 1) w136 w136)
                          have hUd25 := (Rg.refl : Rg w23.heap.size wL2.heap.size 0 0 w136 w136)
                          refine PY_b ?_ ?_
                          · refine PB_m w23.heap.size wL2.heap.size b9 (b9 + 1) w23.heap.size wL2.heap.size 0 0 rfl rfl (ev_lit1 Try.underlying78 el77 (by decide) (by decide) rfl rfl) ?_
                            rintro _ w131 ⟨rfl, hN131⟩
                            have hz131 := hN131.size
                            replace hE := hE.trans hN131.ext
                            replace hRL0 := hRL0.trans hN131.ext
                            replace hRL2 := hRL2.trans hN131.ext
                            replace hSd25 := hSd25.trans hN131.ext
                            replace hUd25 := hUd25.trans hN131.ext
                            replace hA := hA.ext hN131.ext
                            replace hB3 := hB3.ext hN131.ext
                            replace hB11 := hB11.ext hN131.ext
                            replace hB9 := hB9.ext hN131.ext
                            replace hB13 := hB13.ext hN131.ext
                            replace hB14 := hB14.ext hN131.ext
                            replace hZ := hZ.ext hN131.ext
                            replace hT := hT.ext hN131.ext
                            replace hB136 := hB136.ext hN131.ext
                            have hB131 := hN131.blk
                            refine ⟨fun _ hx => ⟨hSd25.rg hx (by omega), trivial⟩, fun _ hx => ⟨hUd25.rg hx (by omega), trivial⟩, ?_⟩
                            have hSd25 := (Rg.refl : Rg w23.heap.size wL2.heap.size b9 (b9 + 1) w131 w131)
                            have hUd25 := (Rg.refl : Rg w23.heap.size wL2.heap.size 0 0 w131 w131)
                            refine PY_b ?_ ?_
                            · have hP132 := hT.wks
                              have hgz2 := hZ.lt
                              have hT1 := hT.ow
                              refine PB_m w23.heap.size wL2.heap.size b9 (b9 + 1) w23.heap.size wL2.heap.size 0 0 rfl rfl (ev_append Try.underlying78 el77 rfl (by decide) rfl rfl hP132 (SAt.of_blk (cs := [_, _, _]) (ds := []) hB131) rfl (by simp [Value.oneCell']) (by omega) (by unfold maxLen; omega) (by omega)) ?_
                              rintro _ w132 ⟨a132, c132, rfl, hO132, hK132, hQ132⟩
                              have hz132 := hK132.size
                              replace hE := hE.app hK132 (fun q hq => by have h1 := hT1 q hq; omega)
                              replace hRL0 := hRL0.app hK132 (fun q hq => by have h1 := hT1 q hq; omega)
                              replace hRL2 := hRL2.app hK132 (fun q hq => by have h1 := hT1 q hq; omega)
                              replace hSd25 := hSd25.app hK132 (fun q hq => by have h1 := hT1 q hq; omega)
                              replace hUd25 := hUd25.app hK132 (fun q hq => by have h1 := hT1 q hq; omega)
                              replace hB11 := hB11.keep hK132 ⟨hB11.lt, fun q hq => by have h1 := hT1 q hq; omega⟩
                              replace hB9 := hB9.keep hK132 ⟨hB9.lt, fun q hq => by have h1 := hT1 q hq; omega⟩
                              replace hB13 := hB13.keep hK132 ⟨hB13.lt, fun q hq => by have h1 := hT1 q hq; omega⟩
                              replace hB14 := hB14.keep hK132 ⟨hB14.lt, fun q hq => by have h1 := hT1 q hq; omega⟩
                              replace hZ := hZ.keep hK132 ⟨hZ.lt, fun q hq => by have h1 := hT1 q hq; omega⟩
                              replace hB136 := hB136.keep hK132 ⟨hB136.lt, fun q hq => by have h1 := hT1 q hq; omega⟩
                              have hP132 := hO132
                              replace hT := hT.pushW (z := (kidW A.ends i z k)) hK132 (by rw [hkx.1, hkx.2]; exact hO132) rfl hQ132 ⟨by omega, by omega, by omega⟩
                              refine ⟨fun _ hx => ⟨hSd25.rg hx (by omega), trivial⟩, fun _ hx => ⟨hUd25.rg hx (by omega), trivial⟩, ?_⟩
                              have hSd25 := (Rg.refl : Rg w23.heap.size wL2.heap.size b9 (b9 + 1) w132 w132)
                              have hUd25 := (Rg.refl : Rg w23.heap.size wL2.heap.size 0 0 w132 w132)
                              refine PY_b ?_ ?_
                              · have hP137 := hT.net.rows.out
                                dsimp only at hP137
                                rw [List.length_set] at hP137
                                have hT1 := hT.o1
                                have hJ9 := hT.o3
                                have hyz := Own.of_front (lo := w23.heap.size) (n := ((zrW A.ends d (kidW A.ends i z k)).set (qFW d (kidW A.ends i z k)).toNat ((i : Int), (k : Int))).length) (c := zlW A.ends d (kidW A.ends i z k)) (sz := 2) (rest := []) (by rw [List.append_nil]; exact hZ) (by omega) (by rw [List.length_set, zrW_len]; exact Nat.le_refl _) hz6 (by rw [List.append_nil, pairCells_length, List.length_set, zrW_len]) (by rw [pairCells_length])
                                refine PB_m w23.heap.size wL2.heap.size b9 (b9 + 1) w23.heap.size wL2.heap.size 0 0 rfl rfl (ev_append Try.underlying29 el56 rfl (by decide) rfl rfl hP137 (SAt.of_blk (cs := [_]) (ds := []) hB136) rfl (by simp [Value.oneCell']) (by omega) (by unfold maxLen; omega) (by omega)) ?_
                                rintro _ w137 ⟨a137, c137, rfl, hO137, hK137, hQ137⟩
                                have hz137 := hK137.size
                                replace hE := hE.app hK137 (fun q hq => by have h1 := hT1 q hq; omega)
                                replace hRL0 := hRL0.app hK137 (fun q hq => by have h1 := hT1 q hq; omega)
                                replace hRL2 := hRL2.app hK137 (fun q hq => by have h1 := hT1 q hq; omega)
                                replace hSd25 := hSd25.app hK137 (fun q hq => by have h1 := hT1 q hq; omega)
                                replace hUd25 := hUd25.app hK137 (fun q hq => by have h1 := hT1 q hq; omega)
                                replace hB11 := hB11.keep hK137 ⟨hB11.lt, fun q hq => by have h1 := hT1 q hq; omega⟩
                                replace hB9 := hB9.keep hK137 ⟨hB9.lt, fun q hq => by have h1 := hT1 q hq; omega⟩
                                have hP137 := hO137
                                replace hT := hT.pushRow hyz ⟨by omega, by omega, by omega⟩ hK137 (by rw [List.length_set, zrW_len]; exact hO137) (by rw [List.length_set]) hQ137 ⟨by omega, by omega⟩ ⟨by omega, by omega⟩
                                dsimp only at hT
                                refine ⟨fun _ hx => ⟨hSd25.rg hx (by omega), trivial⟩, fun _ hx => ⟨hUd25.rg hx (by omega), trivial⟩, ?_⟩
                                have hSd25 := (Rg.refl : Rg w23.heap.size wL2.heap.size b9 (b9 + 1) w137 w137)
                                have hUd25 := (Rg.refl : Rg w23.heap.size wL2.heap.size 0 0 w137 w137)
                                refine PY_a ?_
                                refine PB_m w23.heap.size wL2.heap.size b9 (b9 + 1) w23.heap.size wL2.heap.size 0 0 rfl rfl (ev_lit1 Try.underlying23 el3 (by decide) (by decide) rfl rfl) ?_
                                rintro _ w146 ⟨rfl, hN146⟩
                                have hz146 := hN146.size
                                replace hE := hE.trans hN146.ext
                                replace hRL0 := hRL0.trans hN146.ext
                                replace hRL2 := hRL2.trans hN146.ext
                                replace hSd25 := hSd25.trans hN146.ext
                                replace hUd25 := hUd25.trans hN146.ext
                                replace hB11 := hB11.ext hN146.ext
                                replace hB9 := hB9.ext hN146.ext
                                replace hT := hT.ext hN146.ext
                                have hB146 := hN146.blk
                                refine ⟨fun _ hx => ⟨hSd25.rg hx (by omega), trivial⟩, fun _ hx => ⟨hUd25.rg hx (by omega), trivial⟩, ?_⟩
                                have hSd25 := (Rg.refl : Rg w23.heap.size wL2.heap.size b9 (b9 + 1) w146 w146)
                                have hUd25 := (Rg.refl : Rg w23.heap.size wL2.heap.size 0 0 w146 w146)
                                refine PY_a ?_
                                have hP147 := hT.net.inp.1
                                dsimp only at hP147
                                have hT1 : ∀ q, a32 = some q → (w23.heap.size ≤ q.block ∧ q.block < wL2.heap.size) ∧ q.block ≠ b9 ∧ q.block ≠ wL0.heap.size ∧ q.block ≠ gz := hJ9
                                refine PB_m w23.heap.size wL2.heap.size b9 (b9 + 1) w23.heap.size wL2.heap.size 0 0 rfl rfl (ev_append Try.underlying23 el3 rfl (by decide) rfl rfl hP147 (SAt.of_blk (cs := [_]) (ds := []) hB146) rfl (by simp [Value.oneCell']) (by omega) (by unfold maxLen; omega) (by omega)) ?_
                                rintro _ w147 ⟨a147, c147, rfl, hO147, hK147, hQ147⟩
                                have hz147 := hK147.size
                                replace hE := hE.app hK147 (fun q hq => by have h1 := hT1 q hq; omega)
                                replace hRL0 := hRL0.app hK147 (fun q hq => by have h1 := hT1 q hq; omega)
                                replace hRL2 := hRL2.app hK147 (fun q hq => by have h1 := hT1 q hq; omega)
                                replace hSd25 := hSd25.app hK147 (fun q hq => by have h1 := hT1 q hq; omega)
                                replace hUd25 := hUd25.app hK147 (fun q hq => by have h1 := hT1 q hq; omega)
                                replace hB11 := hB11.keep hK147 ⟨hB11.lt, fun q hq => by have h1 := hT1 q hq; omega⟩
                                replace hB9 := hB9.keep hK147 ⟨hB9.lt, fun q hq => by have h1 := hT1 q hq; omega⟩
                                have hP147 := hO147
                                replace hT := hT.pushInp hK147 hO147 rfl hQ147 ⟨by omega, by omega⟩ ⟨by omega, by omega, by omega⟩
                                dsimp only at hT
                                replace hT := hT.to (show _ = (uK A.ends i z (uN A.ends v d i) (k + 1)) from (uK_new hp84).symm) (show _ = (⟨RI A.ends d (uK A.ends i z (uN A.ends v d i) (k + 1)), [], (uK A.ends i z (uN A.ends v d i) (k + 1)).map (inpW A)⟩ : Net) by rw [uK_new hp84, RI_kid hirk, List.map_append, List.map_singleton, kid_inp hl73 hlk (by omega)])
                                refine ⟨fun _ hx => ⟨hSd25.rg hx (by omega), trivial⟩, fun _ hx => ⟨hUd25.rg hx (by omega), trivial⟩, ?_⟩
                                have hSd25 := (Rg.refl : Rg w23.heap.size wL2.heap.size b9 (b9 + 1) w147 w147)
                                have hUd25 := (Rg.refl : Rg w23.heap.size wL2.heap.size 0 0 w147 w147)
                                refine PY_q rfl rfl (fun wq hq => ev_assign rfl) ?_
                                refine PY_q rfl rfl (fun wq hq => ev_fieldAddr fo31_0 rfl) ?_
                                refine PY_z ?_
                                refine PB_s w23.heap.size wL2.heap.size 0 0 w23.heap.size wL2.heap.size 0 0 rfl (ev_store sz29 rfl rfl rfl hB9 (by simp)) ?_
                                rintro _ w25_21 hS25_21
                                have hz25_21 := hS25_21.size
                                replace hE := hE.sto hS25_21 (by omega)
                                replace hRL0 := hRL0.sto hS25_21 (by omega)
                                replace hRL2 := hRL2.sto hS25_21 (by omega)
                                replace hUd25 := hUd25.sto hS25_21 (by omega)
                                replace hB11 := hB11.sto hS25_21 (by omega)
                                replace hT := hT.sto hS25_21 (by omega)
                                replace hB9 : Blk w25_21 _ _ [_, _, _] := hS25_21.blk
                                refine ⟨fun _ _ => trivial, fun _ hx => ⟨hUd25.rg hx (by omega), trivial⟩, ?_⟩
                                have hSd25 := (Rg.refl : Rg w23.heap.size wL2.heap.size 0 0 w25_21 w25_21)
                                have hUd25 := (Rg.refl : Rg w23.heap.size wL2.heap.size 0 0 w25_21 w25_21)
                                refine PY_h rfl rfl (fun wq hq => ev_fieldAddr fo31_2 rfl) ?_
                                refine PY_a ?_
                                refine PB_s w23.heap.size wL2.heap.size 0 0 w23.heap.size wL2.heap.size 0 0 rfl (ev_store sz23 rfl rfl rfl hB9 (by simp)) ?_
                                rintro _ w25_23 hS25_23
                                have hz25_23 := hS25_23.size
                                replace hE := hE.sto hS25_23 (by omega)
                                replace hRL0 := hRL0.sto hS25_23 (by omega)
                                replace hRL2 := hRL2.sto hS25_23 (by omega)
                                replace hUd25 := hUd25.sto hS25_23 (by omega)
                                replace hSd25 := hSd25.sto hS25_23 (by omega)
                                replace hB11 := hB11.sto hS25_23 (by omega)
                                replace hT := hT.sto hS25_23 (by omega)
                                replace hB9 : Blk w25_23 _ _ [_, _, _] := hS25_23.blk
                                refine ⟨fun _ hx => ⟨hSd25.rg hx (by omega), trivial⟩, fun _ hx => ⟨hUd25.rg hx (by omega), trivial⟩, ?_⟩
                                have hSd25 := (Rg.refl : Rg w23.heap.size wL2.heap.size 0 0 w25_23 w25_23)
                                have hUd25 := (Rg.refl : Rg w23.heap.size wL2.heap.size 0 0 w25_23 w25_23)
                                exact PY_nil 22 (a132, c132, a137, c137, a147, c147, vs2 ++ [(some ⟨gz, 0, none⟩, zlW A.ends d (kidW A.ends i z k))]) rfl ⟨lkS rfl hkl1.symm, trivial⟩ rfl ⟨(hT.re ⟨by omega, by omega⟩).up (by omega) (by omega), by rw [hRl1, hIl1]; exact hB9, hB11, hRL2, hRL0, hE⟩
                              · refine PB_m w23.heap.size wL2.heap.size b9 (b9 + 1) w23.heap.size wL2.heap.size 0 0 rfl rfl (ev_lit1 Try.underlying23 el3 (by decide) (by decide) rfl rfl) ?_
                                rintro _ w146 ⟨rfl, hN146⟩
                                have hz146 := hN146.size
                                replace hE := hE.trans hN146.ext
                                replace hRL0 := hRL0.trans hN146.ext
                                replace hRL2 := hRL2.trans hN146.ext
                                replace hSd25 := hSd25.trans hN146.ext
                                replace hUd25 := hUd25.trans hN146.ext
                                replace hB11 := hB11.ext hN146.ext
                                replace hB9 := hB9.ext hN146.ext
                                replace hB13 := hB13.ext hN146.ext
                                replace hB14 := hB14.ext hN146.ext
                                replace hZ := hZ.ext hN146.ext
                                replace hB136 := hB136.ext hN146.ext
                                replace hT := hT.ext hN146.ext
                                have hB146 := hN146.blk
                                refine ⟨fun _ hx => ⟨hSd25.rg hx (by omega), trivial⟩, fun _ hx => ⟨hUd25.rg hx (by omega), trivial⟩, ?_⟩
                                have hSd25 := (Rg.refl : Rg w23.heap.size wL2.heap.size b9 (b9 + 1) w146 w146)
                                have hUd25 := (Rg.refl : Rg w23.heap.size wL2.heap.size 0 0 w146 w146)
                                refine PY_a ?_
                                have hP137 := hT.net.rows.out
                                dsimp only at hP137
                                rw [List.length_set] at hP137
                                have hT1 := hT.o1
                                have hJ9 := hT.o3
                                have hyz := Own.of_front (lo := w23.heap.size) (n := ((zrW A.ends d (kidW A.ends i z k)).set (qFW d (kidW A.ends i z k)).toNat ((i : Int), (k : Int))).length) (c := zlW A.ends d (kidW A.ends i z k)) (sz := 2) (rest := []) (by rw [List.append_nil]; exact hZ) (by omega) (by rw [List.length_set, zrW_len]; exact Nat.le_refl _) hz6 (by rw [List.append_nil, pairCells_length, List.length_set, zrW_len]) (by rw [pairCells_length])
                                refine PB_m w23.heap.size wL2.heap.size b9 (b9 + 1) w23.heap.size wL2.heap.size 0 0 rfl rfl (ev_append Try.underlying29 el56 rfl (by decide) rfl rfl hP137 (SAt.of_blk (cs := [_]) (ds := []) hB136) rfl (by simp [Value.oneCell']) (by omega) (by unfold maxLen; omega) (by omega)) ?_
                                rintro _ w137 ⟨a137, c137, rfl, hO137, hK137, hQ137⟩
                                have hz137 := hK137.size
                                replace hE := hE.app hK137 (fun q hq => by have h1 := hT1 q hq; omega)
                                replace hRL0 := hRL0.app hK137 (fun q hq => by have h1 := hT1 q hq; omega)
                                replace hRL2 := hRL2.app hK137 (fun q hq => by have h1 := hT1 q hq; omega)
                                replace hSd25 := hSd25.app hK137 (fun q hq => by have h1 := hT1 q hq; omega)
                                replace hUd25 := hUd25.app hK137 (fun q hq => by have h1 := hT1 q hq; omega)
                                replace hB11 := hB11.keep hK137 ⟨hB11.lt, fun q hq => by have h1 := hT1 q hq; omega⟩
                                replace hB9 := hB9.keep hK137 ⟨hB9.lt, fun q hq => by have h1 := hT1 q hq; omega⟩
                                replace hB146 := hB146.keep hK137 ⟨hB146.lt, fun q hq => by have h1 := hT1 q hq; omega⟩
                                have hP137 := hO137
                                replace hT := hT.pushRow hyz ⟨by omega, by omega, by omega⟩ hK137 (by rw [List.length_set, zrW_len]; exact hO137) (by rw [List.length_set]) hQ137 ⟨by omega, by omega⟩ ⟨by omega, by omega⟩
                                dsimp only at hT
                                refine ⟨fun _ hx => ⟨hSd25.rg hx (by omega), trivial⟩, fun _ hx => ⟨hUd25.rg hx (by omega), trivial⟩, ?_⟩
                                have hSd25 := (Rg.refl : Rg w23.heap.size wL2.heap.size b9 (b9 + 1) w137 w137)
                                have hUd25 := (Rg.refl : Rg w23.heap.size wL2.heap.size 0 0 w137 w137)
                                refine PY_a ?_
                                have hP147 := hT.net.inp.1
                                dsimp only at hP147
                                have hT1 : ∀ q, a32 = some q → (w23.heap.size ≤ q.block ∧ q.block < wL2.heap.size) ∧ q.block ≠ b9 ∧ q.block ≠ wL0.heap.size ∧ q.block ≠ gz := hJ9
                                refine PB_m w23.heap.size wL2.heap.size b9 (b9 + 1) w23.heap.size wL2.heap.size 0 0 rfl rfl (ev_append Try.underlying23 el3 rfl (by decide) rfl rfl hP147 (SAt.of_blk (cs := [_]) (ds := []) hB146) rfl (by simp [Value.oneCell']) (by omega) (by unfold maxLen; omega) (by omega)) ?_
                                rintro _ w147 ⟨a147, c147, rfl, hO147, hK147, hQ147⟩
                                have hz147 := hK147.size
                                replace hE := hE.app hK147 (fun q hq => by have h1 := hT1 q hq; omega)
                                replace hRL0 := hRL0.app hK147 (fun q hq => by have h1 := hT1 q hq; omega)
                                replace hRL2 := hRL2.app hK147 (fun q hq => by have h1 := hT1 q hq; omega)
                                replace hSd25 := hSd25.app hK147 (fun q hq => by have h1 := hT1 q hq; omega)
                                replace hUd25 := hUd25.app hK147 (fun q hq => by have h1 := hT1 q hq; omega)
                                replace hB11 := hB11.keep hK147 ⟨hB11.lt, fun q hq => by have h1 := hT1 q hq; omega⟩
                                replace hB9 := hB9.keep hK147 ⟨hB9.lt, fun q hq => by have h1 := hT1 q hq; omega⟩
                                have hP147 := hO147
                                replace hT := hT.pushInp hK147 hO147 rfl hQ147 ⟨by omega, by omega⟩ ⟨by omega, by omega, by omega⟩
                                dsimp only at hT
                                replace hT := hT.to (show _ = (uK A.ends i z (uN A.ends v d i) (k + 1)) from (uK_new hp84).symm) (show _ = (⟨RI A.ends d (uK A.ends i z (uN A.ends v d i) (k + 1)), [], (uK A.ends i z (uN A.ends v d i) (k + 1)).map (inpW A)⟩ : Net) by rw [uK_new hp84, RI_kid hirk, List.map_append, List.map_singleton, kid_inp hl73 hlk (by omega)])
                                refine ⟨fun _ hx => ⟨hSd25.rg hx (by omega), trivial⟩, fun _ hx => ⟨hUd25.rg hx (by omega), trivial⟩, ?_⟩
                                have hSd25 := (Rg.refl : Rg w23.heap.size wL2.heap.size b9 (b9 + 1) w147 w147)
                                have hUd25 := (Rg.refl : Rg w23.heap.size wL2.heap.size 0 0 w147 w147)
                                refine PY_q rfl rfl (fun wq hq => ev_assign rfl) ?_
                                refine PY_q rfl rfl (fun wq hq => ev_fieldAddr fo31_0 rfl) ?_
                                refine PY_z ?_
                                refine PB_s w23.heap.size wL2.heap.size 0 0 w23.heap.size wL2.heap.size 0 0 rfl (ev_store sz29 rfl rfl rfl hB9 (by simp)) ?_
                                rintro _ w25_21 hS25_21
                                have hz25_21 := hS25_21.size
                                replace hE := hE.sto hS25_21 (by omega)
                                replace hRL0 := hRL0.sto hS25_21 (by omega)
                                replace hRL2 := hRL2.sto hS25_21 (by omega)
                                replace hUd25 := hUd25.sto hS25_21 (by omega)
                                replace hB11 := hB11.sto hS25_21 (by omega)
                                replace hT := hT.sto hS25_21 (by omega)
                                replace hB9 : Blk w25_21 _ _ [_, _, _] := hS25_21.blk
                                refine ⟨fun _ _ => trivial, fun _ hx => ⟨hUd25.rg hx (by omega), trivial⟩, ?_⟩
                                have hSd25 := (Rg.refl : Rg w23.heap.size wL2.heap.size 0 0 w25_21 w25_21)
                                have hUd25 := (Rg.refl : Rg w23.heap.size wL2.heap.size 0 0 w25_21 w25_21)
                                refine PY_h rfl rfl (fun wq hq => ev_fieldAddr fo31_2 rfl) ?_
                                refine PY_a ?_
                                refine PB_s w23.heap.size wL2.heap.size 0 0 w23.heap.size wL2.heap.size 0 0 rfl (ev_store sz23 rfl rfl rfl hB9 (by simp)) ?_
                                rintro _ w25_23 hS25_23
                                have hz25_23 := hS25_23.size
                                replace hE := hE.sto hS25_23 (by omega)
                                replace hRL0 := hRL0.sto hS25_23 (by omega)
                                replace hRL2 := hRL2.sto hS25_23 (by omega)
                                replace hUd25 := hUd25.sto hS25_23 (by omega)
                                replace hSd25 := hSd25.sto hS25_23 (by omega)
                                replace hB11 := hB11.sto hS25_23 (by omega)
                                replace hT := hT.sto hS25_23 (by omega)
                                replace hB9 : Blk w25_23 _ _ [_, _, _] := hS25_23.blk
                                refine ⟨fun _ hx => ⟨hSd25.rg hx (by omega), trivial⟩, fun _ hx => ⟨hUd25.rg hx (by omega), trivial⟩, ?_⟩
                                have hSd25 := (Rg.refl : Rg w23.heap.size wL2.heap.size 0 0 w25_23 w25_23)
                                have hUd25 := (Rg.refl : Rg w23.heap.size wL2.heap.size 0 0 w25_23 w25_23)
                                exact PY_nil 22 (a132, c132, a137, c137, a147, c147, vs2 ++ [(some ⟨gz, 0, none⟩, zlW A.ends d (kidW A.ends i z k))]) rfl ⟨lkS rfl hkl1.symm, trivial⟩ rfl ⟨(hT.re ⟨by omega, by omega⟩).up (by omega) (by omega), by rw [hRl1, hIl1]; exact hB9, hB11, hRL2, hRL0, hE⟩
                            · refine PB_m w23.heap.size wL2.heap.size b9 (b9 + 1) w23.heap.size wL2.heap.size 0 0 rfl rfl (ev_lit1 Try.underlying23 el3 (by decide) (by decide) rfl rfl) ?_
                              rintro _ w146 ⟨rfl, hN146⟩
                              have hz146 := hN146.size
                              replace hE := hE.trans hN146.ext
                              replace hRL0 := hRL0.trans hN146.ext
                              replace hRL2 := hRL2.trans hN146.ext
                              replace hSd25 := hSd25.trans hN146.ext
                              replace hUd25 := hUd25.trans hN146.ext
                              replace hA := hA.ext hN146.ext
                              replace hB3 := hB3.ext hN146.ext
                              replace hB11 := hB11.ext hN146.ext
                              replace hB9 := hB9.ext hN146.ext
                              replace hB13 := hB13.ext hN146.ext
                              replace hB14 := hB14.ext hN146.ext
                              replace hZ := hZ.ext hN146.ext
                              replace hT := hT.ext hN146.ext
                              replace hB136 := hB136.ext hN146.ext
                              replace hB131 := hB131.ext hN146.ext
                              have hB146 := hN146.blk
                              refine ⟨fun _ hx => ⟨hSd25.rg hx (by omega), trivial⟩, fun _ hx => ⟨hUd25.rg hx (by omega), trivial⟩, ?_⟩
                              have hSd25 := (Rg.refl : Rg w23.heap.size wL2.heap.size b9 (b9 + 1) w146 w146)
                              have hUd25 := (Rg.refl : Rg w23.heap.size wL2.heap.size 0 0 w146 w146)
                              refine PY_a ?_
                              have hP132 := hT.wks
                              have hgz2 := hZ.lt
                              have hT1 := hT.ow
                              refine PB_m w23.heap.size wL2.heap.size b9 (b9 + 1) w23.heap.size wL2.heap.size 0 0 rfl rfl (ev_append Try.underlying78 el77 rfl (by decide) rfl rfl hP132 (SAt.of_blk (cs := [_, _, _]) (ds := []) hB131) rfl (by simp [Value.oneCell']) (by omega) (by unfold maxLen; omega) (by omega)) ?_
                              rintro _ w132 ⟨a132, c132, rfl, hO132, hK132, hQ132⟩
                              have hz132 := hK132.size
                              replace hE := hE.app hK132 (fun q hq => by have h1 := hT1 q hq; omega)
                              replace hRL0 := hRL0.app hK132 (fun q hq => by have h1 := hT1 q hq; omega)
                              replace hRL2 := hRL2.app hK132 (fun q hq => by have h1 := hT1 q hq; omega)
                              replace hSd25 := hSd25.app hK132 (fun q hq => by have h1 := hT1 q hq; omega)
                              replace hUd25 := hUd25.app hK132 (fun q hq => by have h1 := hT1 q hq; omega)
                              replace hB11 := hB11.keep hK132 ⟨hB11.lt, fun q hq => by have h1 := hT1 q hq; omega⟩
                              replace hB9 := hB9.keep hK132 ⟨hB9.lt, fun q hq => by have h1 := hT1 q hq; omega⟩
                              replace hB13 := hB13.keep hK132 ⟨hB13.lt, fun q hq => by have h1 := hT1 q hq; omega⟩
                              replace hB14 := hB14.keep hK132 ⟨hB14.lt, fun q hq => by have h1 := hT1 q hq; omega⟩
                              replace hZ := hZ.keep hK132 ⟨hZ.lt, fun q hq => by have h1 := hT1 q hq; omega⟩
                              replace hB136 := hB136.keep hK132 ⟨hB136.lt, fun q hq => by have h1 := hT1 q hq; omega⟩
                              replace hB146 := hB146.keep hK132 ⟨hB146.lt, fun q hq => by have h1 := hT1 q hq; omega⟩
                              have hP132 := hO132
                              replace hT := hT.pushW (z := (kidW A.ends i z k)) hK132 (by rw [hkx.1, hkx.2]; exact hO132) rfl hQ132 ⟨by omega, by omega, by omega⟩
                              refine ⟨fun _ hx => ⟨hSd25.rg hx (by omega), trivial⟩, fun _ hx => ⟨hUd25.rg hx (by omega), trivial⟩, ?_⟩
                              have hSd25 := (Rg.refl : Rg w23.heap.size wL2.heap.size b9 (b9 + 1) w132 w132)
                              have hUd25 := (Rg.refl : Rg w23.heap.size wL2.heap.size 0 0 w132 w132)
                              refine PY_a ?_
                              have hP137 := hT.net.rows.out
                              dsimp only at hP137
                              rw [List.length_set] at hP137
                              have hT1 := hT.o1
                              have hJ9 := hT.o3
                              have hyz := Own.of_front (lo := w23.heap.size) (n := ((zrW A.ends d (kidW A.ends i z k)).set (qFW d (kidW A.ends i z k)).toNat ((i : Int), (k : Int))).length) (c := zlW A.ends d (kidW A.ends i z k)) (sz := 2) (rest := []) (by rw [List.append_nil]; exact hZ) (by omega) (by rw [List.length_set, zrW_len]; exact Nat.le_refl _) hz6 (by rw [List.append_nil, pairCells_length, List.length_set, zrW_len]) (by rw [pairCells_length])
                              refine PB_m w23.heap.size wL2.heap.size b9 (b9 + 1) w23.heap.size wL2.heap.size 0 0 rfl rfl (ev_append Try.underlying29 el56 rfl (by decide) rfl rfl hP137 (SAt.of_blk (cs := [_]) (ds := []) hB136) rfl (by simp [Value.oneCell']) (by omega) (by unfold maxLen; omega) (by omega)) ?_
                              rintro _ w137 ⟨a137, c137, rfl, hO137, hK137, hQ137⟩
                              have hz137 := hK137.size
                              replace hE := hE.app hK137 (fun q hq => by have h1 := hT1 q hq; omega)
                              replace hRL0 := hRL0.app hK137 (fun q hq => by have h1 := hT1 q hq; omega)
                              replace hRL2 := hRL2.app hK137 (fun q hq => by have h1 := hT1 q hq; omega)
                              replace hSd25 := hSd25.app hK137 (fun q hq => by have h1 := hT1 q hq; omega)
                              replace hUd25 := hUd25.app hK137 (fun q hq => by have h1 := hT1 q hq; omega)
                              replace hB11 := hB11.keep hK137 ⟨hB11.lt, fun q hq => by have h1 := hT1 q hq; omega⟩
                              replace hB9 := hB9.keep hK137 ⟨hB9.lt, fun q hq => by have h1 := hT1 q hq; omega⟩
                              replace hB146 := hB146.keep hK137 ⟨hB146.lt, fun q hq => by have h1 := hT1 q hq; omega⟩
                              have hP137 := hO137
                              replace hT := hT.pushRow hyz ⟨by omega, by omega, by omega⟩ hK137 (by rw [List.length_set, zrW_len]; exact hO137) (by rw [List.length_set]) hQ137 ⟨by omega, by omega⟩ ⟨by omega, by omega⟩
                              dsimp only at hT
                              refine ⟨fun _ hx => ⟨hSd25.rg hx (by omega), trivial⟩, fun _ hx => ⟨hUd25.rg hx (by omega), trivial⟩, ?_⟩
                              have hSd25 := (Rg.refl : Rg w23.heap.size wL2.heap.size b9 (b9 + 1) w137 w137)
                              have hUd25 := (Rg.refl : Rg w23.heap.size wL2.heap.size 0 0 w137 w137)
                              refine PY_a ?_
                              have hP147 := hT.net.inp.1
                              dsimp only at hP147
                              have hT1 : ∀ q, a32 = some q → (w23.heap.size ≤ q.block ∧ q.block < wL2.heap.size) ∧ q.block ≠ b9 ∧ q.block ≠ wL0.heap.size ∧ q.block ≠ gz := hJ9
                              refine PB_m w23.heap.size wL2.heap.size b9 (b9 + 1) w23.heap.size wL2.heap.size 0 0 rfl rfl (ev_append Try.underlying23 el3 rfl (by decide) rfl rfl hP147 (SAt.of_blk (cs := [_]) (ds := []) hB146) rfl (by simp [Value.oneCell']) (by omega) (by unfold maxLen; omega) (by omega)) ?_
                              rintro _ w147 ⟨a147, c147, rfl, hO147, hK147, hQ147⟩
                              have hz147 := hK147.size
                              replace hE := hE.app hK147 (fun q hq => by have h1 := hT1 q hq; omega)
                              replace hRL0 := hRL0.app hK147 (fun q hq => by have h1 := hT1 q hq; omega)
                              replace hRL2 := hRL2.app hK147 (fun q hq => by have h1 := hT1 q hq; omega)
                              replace hSd25 := hSd25.app hK147 (fun q hq => by have h1 := hT1 q hq; omega)
                              replace hUd25 := hUd25.app hK147 (fun q hq => by have h1 := hT1 q hq; omega)
                              replace hB11 := hB11.keep hK147 ⟨hB11.lt, fun q hq => by have h1 := hT1 q hq; omega⟩
                              replace hB9 := hB9.keep hK147 ⟨hB9.lt, fun q hq => by have h1 := hT1 q hq; omega⟩
                              have hP147 := hO147
                              replace hT := hT.pushInp hK147 hO147 rfl hQ147 ⟨by omega, by omega⟩ ⟨by omega, by omega, by omega⟩
                              dsimp only at hT
                              replace hT := hT.to (show _ = (uK A.ends i z (uN A.ends v d i) (k + 1)) from (uK_new hp84).symm) (show _ = (⟨RI A.ends d (uK A.ends i z (uN A.ends v d i) (k + 1)), [], (uK A.ends i z (uN A.ends v d i) (k + 1)).map (inpW A)⟩ : Net) by rw [uK_new hp84, RI_kid hirk, List.map_append, List.map_singleton, kid_inp hl73 hlk (by omega)])
                              refine ⟨fun _ hx => ⟨hSd25.rg hx (by omega), trivial⟩, fun _ hx => ⟨hUd25.rg hx (by omega), trivial⟩, ?_⟩
                              have hSd25 := (Rg.refl : Rg w23.heap.size wL2.heap.size b9 (b9 + 1) w147 w147)
                              have hUd25 := (Rg.refl : Rg w23.heap.size wL2.heap.size 0 0 w147 w147)
                              refine PY_q rfl rfl (fun wq hq => ev_assign rfl) ?_
                              refine PY_q rfl rfl (fun wq hq => ev_fieldAddr fo31_0 rfl) ?_
                              refine PY_z ?_
                              refine PB_s w23.heap.size wL2.heap.size 0 0 w23.heap.size wL2.heap.size 0 0 rfl (ev_store sz29 rfl rfl rfl hB9 (by simp)) ?_
                              rintro _ w25_21 hS25_21
                              have hz25_21 := hS25_21.size
                              replace hE := hE.sto hS25_21 (by omega)
                              replace hRL0 := hRL0.sto hS25_21 (by omega)
                              replace hRL2 := hRL2.sto hS25_21 (by omega)
                              replace hUd25 := hUd25.sto hS25_21 (by omega)
                              replace hB11 := hB11.sto hS25_21 (by omega)
                              replace hT := hT.sto hS25_21 (by omega)
                              replace hB9 : Blk w25_21 _ _ [_, _, _] := hS25_21.blk
                              refine ⟨fun _ _ => trivial, fun _ hx => ⟨hUd25.rg hx (by omega), trivial⟩, ?_⟩
                              have hSd25 := (Rg.refl : Rg w23.heap.size wL2.heap.size 0 0 w25_21 w25_21)
                              have hUd25 := (Rg.refl : Rg w23.heap.size wL2.heap.size 0 0 w25_21 w25_21)
                              refine PY_h rfl rfl (fun wq hq => ev_fieldAddr fo31_2 rfl) ?_
                              refine PY_a ?_
                              refine PB_s w23.heap.size wL2.heap.size 0 0 w23.heap.size wL2.heap.size 0 0 rfl (ev_store sz23 rfl rfl rfl hB9 (by simp)) ?_
                              rintro _ w25_23 hS25_23
                              have hz25_23 := hS25_23.size
                              replace hE := hE.sto hS25_23 (by omega)
                              replace hRL0 := hRL0.sto hS25_23 (by omega)
                              replace hRL2 := hRL2.sto hS25_23 (by omega)
                              replace hUd25 := hUd25.sto hS25_23 (by omega)
                              replace hSd25 := hSd25.sto hS25_23 (by omega)
                              replace hB11 := hB11.sto hS25_23 (by omega)
                              replace hT := hT.sto hS25_23 (by omega)
                              replace hB9 : Blk w25_23 _ _ [_, _, _] := hS25_23.blk
                              refine ⟨fun _ hx => ⟨hSd25.rg hx (by omega), trivial⟩, fun _ hx => ⟨hUd25.rg hx (by omega), trivial⟩, ?_⟩
                              have hSd25 := (Rg.refl : Rg w23.heap.size wL2.heap.size 0 0 w25_23 w25_23)
                              have hUd25 := (Rg.refl : Rg w23.heap.size wL2.heap.size 0 0 w25_23 w25_23)
                              exact PY_nil 22 (a132, c132, a137, c137, a147, c147, vs2 ++ [(some ⟨gz, 0, none⟩, zlW A.ends d (kidW A.ends i z k))]) rfl ⟨lkS rfl hkl1.symm, trivial⟩ rfl ⟨(hT.re ⟨by omega, by omega⟩).up (by omega) (by omega), by rw [hRl1, hIl1]; exact hB9, hB11, hRL2, hRL0, hE⟩
                          · refine PB_m w23.heap.size wL2.heap.size b9 (b9 + 1) w23.heap.size wL2.heap.size 0 0 rfl rfl (ev_lit1 Try.underlying23 el3 (by decide) (by decide) rfl rfl) ?_
                            rintro _ w146 ⟨rfl, hN146⟩
                            have hz146 := hN146.size
                            replace hE := hE.trans hN146.ext
                            replace hRL0 := hRL0.trans hN146.ext
                            replace hRL2 := hRL2.trans hN146.ext
                            replace hSd25 := hSd25.trans hN146.ext
                            replace hUd25 := hUd25.trans hN146.ext
                            replace hA := hA.ext hN146.ext
                            replace hB3 := hB3.ext hN146.ext
                            replace hB11 := hB11.ext hN146.ext
                            replace hB9 := hB9.ext hN146.ext
                            replace hB13 := hB13.ext hN146.ext
                            replace hB14 := hB14.ext hN146.ext
                            replace hZ := hZ.ext hN146.ext
                            replace hT := hT.ext hN146.ext
                            replace hB136 := hB136.ext hN146.ext
                            have hB146 := hN146.blk
                            refine ⟨fun _ hx => ⟨hSd25.rg hx (by omega), trivial⟩, fun _ hx => ⟨hUd25.rg hx (by omega), trivial⟩, ?_⟩
                            have hSd25 := (Rg.refl : Rg w23.heap.size wL2.heap.size b9 (b9 + 1) w146 w146)
                            have hUd25 := (Rg.refl : Rg w23.heap.size wL2.heap.size 0 0 w146 w146)
                            refine PY_a ?_
                            refine PB_m w23.heap.size wL2.heap.size b9 (b9 + 1) w23.heap.size wL2.heap.size 0 0 rfl rfl (ev_lit1 Try.underlying78 el77 (by decide) (by decide) rfl rfl) ?_
                            rintro _ w131 ⟨rfl, hN131⟩
                            have hz131 := hN131.size
                            replace hE := hE.trans hN131.ext
                            replace hRL0 := hRL0.trans hN131.ext
                            replace hRL2 := hRL2.trans hN131.ext
                            replace hSd25 := hSd25.trans hN131.ext
                            replace hUd25 := hUd25.trans hN131.ext
                            replace hA := hA.ext hN131.ext
                            replace hB3 := hB3.ext hN131.ext
                            replace hB11 := hB11.ext hN131.ext
                            replace hB9 := hB9.ext hN131.ext
                            replace hB13 := hB13.ext hN131.ext
                            replace hB14 := hB14.ext hN131.ext
                            replace hZ := hZ.ext hN131.ext
                            replace hT := hT.ext hN131.ext
                            replace hB136 := hB136.ext hN131.ext
                            replace hB146 := hB146.ext hN131.ext
                            have hB131 := hN131.blk
                            refine ⟨fun _ hx => ⟨hSd25.rg hx (by omega), trivial⟩, fun _ hx => ⟨hUd25.rg hx (by omega), trivial⟩, ?_⟩
                            have hSd25 := (Rg.refl : Rg w23.heap.size wL2.heap.size b9 (b9 + 1) w131 w131)
                            have hUd25 := (Rg.refl : Rg w23.heap.size wL2.heap.size 0 0 w131 w131)
                            refine PY_a ?_
                            have hP132 := hT.wks
                            have hgz2 := hZ.lt
                            have hT1 := hT.ow
                            refine PB_m w23.heap.size wL2.heap.size b9 (b9 + 1) w23.heap.size wL2.heap.size 0 0 rfl rfl (ev_append Try.underlying78 el77 rfl (by decide) rfl rfl hP132 (SAt.of_blk (cs := [_, _, _]) (ds := []) hB131) rfl (by simp [Value.oneCell']) (by omega) (by unfold maxLen; omega) (by omega)) ?_
                            rintro _ w132 ⟨a132, c132, rfl, hO132, hK132, hQ132⟩
                            have hz132 := hK132.size
                            replace hE := hE.app hK132 (fun q hq => by have h1 := hT1 q hq; omega)
                            replace hRL0 := hRL0.app hK132 (fun q hq => by have h1 := hT1 q hq; omega)
                            replace hRL2 := hRL2.app hK132 (fun q hq => by have h1 := hT1 q hq; omega)
                            replace hSd25 := hSd25.app hK132 (fun q hq => by have h1 := hT1 q hq; omega)
                            replace hUd25 := hUd25.app hK132 (fun q hq => by have h1 := hT1 q hq; omega)
                            replace hB11 := hB11.keep hK132 ⟨hB11.lt, fun q hq => by have h1 := hT1 q hq; omega⟩
                            replace hB9 := hB9.keep hK132 ⟨hB9.lt, fun q hq => by have h1 := hT1 q hq; omega⟩
                            replace hB13 := hB13.keep hK132 ⟨hB13.lt, fun q hq => by have h1 := hT1 q hq; omega⟩
                            replace hB14 := hB14.keep hK132 ⟨hB14.lt, fun q hq => by have h1 := hT1 q hq; omega⟩
                            replace hZ := hZ.keep hK132 ⟨hZ.lt, fun q hq => by have h1 := hT1 q hq; omega⟩
                            replace hB136 := hB136.keep hK132 ⟨hB136.lt, fun q hq => by have h1 := hT1 q hq; omega⟩
                            replace hB146 := hB146.keep hK132 ⟨hB146.lt, fun q hq => by have h1 := hT1 q hq; omega⟩
                            have hP132 := hO132
                            replace hT := hT.pushW (z := (kidW A.ends i z k)) hK132 (by rw [hkx.1, hkx.2]; exact hO132) rfl hQ132 ⟨by omega, by omega, by omega⟩
                            refine ⟨fun _ hx => ⟨hSd25.rg hx (by omega), trivial⟩, fun _ hx => ⟨hUd25.rg hx (by omega), trivial⟩, ?_⟩
                            have hSd25 := (Rg.refl : Rg w23.heap.size wL2.heap.size b9 (b9 + 1) w132 w132)
                            have hUd25 := (Rg.refl : Rg w23.heap.size wL2.heap.size 0 0 w132 w132)
                            refine PY_a ?_
                            have hP137 := hT.net.rows.out
                            dsimp only at hP137
                            rw [List.length_set] at hP137
                            have hT1 := hT.o1
                            have hJ9 := hT.o3
                            have hyz := Own.of_front (lo := w23.heap.size) (n := ((zrW A.ends d (kidW A.ends i z k)).set (qFW d (kidW A.ends i z k)).toNat ((i : Int), (k : Int))).length) (c := zlW A.ends d (kidW A.ends i z k)) (sz := 2) (rest := []) (by rw [List.append_nil]; exact hZ) (by omega) (by rw [List.length_set, zrW_len]; exact Nat.le_refl _) hz6 (by rw [List.append_nil, pairCells_length, List.length_set, zrW_len]) (by rw [pairCells_length])
                            refine PB_m w23.heap.size wL2.heap.size b9 (b9 + 1) w23.heap.size wL2.heap.size 0 0 rfl rfl (ev_append Try.underlying29 el56 rfl (by decide) rfl rfl hP137 (SAt.of_blk (cs := [_]) (ds := []) hB136) rfl (by simp [Value.oneCell']) (by omega) (by unfold maxLen; omega) (by omega)) ?_
                            rintro _ w137 ⟨a137, c137, rfl, hO137, hK137, hQ137⟩
                            have hz137 := hK137.size
                            replace hE := hE.app hK137 (fun q hq => by have h1 := hT1 q hq; omega)
                            replace hRL0 := hRL0.app hK137 (fun q hq => by have h1 := hT1 q hq; omega)
                            replace hRL2 := hRL2.app hK137 (fun q hq => by have h1 := hT1 q hq; omega)
                            replace hSd25 := hSd25.app hK137 (fun q hq => by have h1 := hT1 q hq; omega)
                            replace hUd25 := hUd25.app hK137 (fun q hq => by have h1 := hT1 q hq; omega)
                            replace hB11 := hB11.keep hK137 ⟨hB11.lt, fun q hq => by have h1 := hT1 q hq; omega⟩
                            replace hB9 := hB9.keep hK137 ⟨hB9.lt, fun q hq => by have h1 := hT1 q hq; omega⟩
                            replace hB146 := hB146.keep hK137 ⟨hB146.lt, fun q hq => by have h1 := hT1 q hq; omega⟩
                            have hP137 := hO137
                            replace hT := hT.pushRow hyz ⟨by omega, by omega, by omega⟩ hK137 (by rw [List.length_set, zrW_len]; exact hO137) (by rw [List.length_set]) hQ137 ⟨by omega, by omega⟩ ⟨by omega, by omega⟩
                            dsimp only at hT
                            refine ⟨fun _ hx => ⟨hSd25.rg hx (by omega), trivial⟩, fun _ hx => ⟨hUd25.rg hx (by omega), trivial⟩, ?_⟩
                            have hSd25 := (Rg.refl : Rg w23.heap.size wL2.heap.size b9 (b9 + 1) w137 w137)
                            have hUd25 := (Rg.refl : Rg w23.heap.size wL2.heap.size 0 0 w137 w137)
                            refine PY_a ?_
                            have hP147 := hT.net.inp.1
                            dsimp only at hP147
                            have hT1 : ∀ q, a32 = some q → (w23.heap.size ≤ q.block ∧ q.block < wL2.heap.size) ∧ q.block ≠ b9 ∧ q.block ≠ wL0.heap.size ∧ q.block ≠ gz := hJ9
                            refine PB_m w23.heap.size wL2.heap.size b9 (b9 + 1) w23.heap.size wL2.heap.size 0 0 rfl rfl (ev_append Try.underlying23 el3 rfl (by decide) rfl rfl hP147 (SAt.of_blk (cs := [_]) (ds := []) hB146) rfl (by simp [Value.oneCell']) (by omega) (by unfold maxLen; omega) (by omega)) ?_
                            rintro _ w147 ⟨a147, c147, rfl, hO147, hK147, hQ147⟩
                            have hz147 := hK147.size
                            replace hE := hE.app hK147 (fun q hq => by have h1 := hT1 q hq; omega)
                            replace hRL0 := hRL0.app hK147 (fun q hq => by have h1 := hT1 q hq; omega)
                            replace hRL2 := hRL2.app hK147 (fun q hq => by have h1 := hT1 q hq; omega)
                            replace hSd25 := hSd25.app hK147 (fun q hq => by have h1 := hT1 q hq; omega)
                            replace hUd25 := hUd25.app hK147 (fun q hq => by have h1 := hT1 q hq; omega)
                            replace hB11 := hB11.keep hK147 ⟨hB11.lt, fun q hq => by have h1 := hT1 q hq; omega⟩
                            replace hB9 := hB9.keep hK147 ⟨hB9.lt, fun q hq => by have h1 := hT1 q hq; omega⟩
                            have hP147 := hO147
                            replace hT := hT.pushInp hK147 hO147 rfl hQ147 ⟨by omega, by omega⟩ ⟨by omega, by omega, by omega⟩
                            dsimp only at hT
                            replace hT := hT.to (show _ = (uK A.ends i z (uN A.ends v d i) (k + 1)) from (uK_new hp84).symm) (show _ = (⟨RI A.ends d (uK A.ends i z (uN A.ends v d i) (k + 1)), [], (uK A.ends i z (uN A.ends v d i) (k + 1)).map (inpW A)⟩ : Net) by rw [uK_new hp84, RI_kid hirk, List.map_append, List.map_singleton, kid_inp hl73 hlk (by omega)])
                            refine ⟨fun _ hx => ⟨hSd25.rg hx (by omega), trivial⟩, fun _ hx => ⟨hUd25.rg hx (by omega), trivial⟩, ?_⟩
                            have hSd25 := (Rg.refl : Rg w23.heap.size wL2.heap.size b9 (b9 + 1) w147 w147)
                            have hUd25 := (Rg.refl : Rg w23.heap.size wL2.heap.size 0 0 w147 w147)
                            refine PY_q rfl rfl (fun wq hq => ev_assign rfl) ?_
                            refine PY_q rfl rfl (fun wq hq => ev_fieldAddr fo31_0 rfl) ?_
                            refine PY_z ?_
                            refine PB_s w23.heap.size wL2.heap.size 0 0 w23.heap.size wL2.heap.size 0 0 rfl (ev_store sz29 rfl rfl rfl hB9 (by simp)) ?_
                            rintro _ w25_21 hS25_21
                            have hz25_21 := hS25_21.size
                            replace hE := hE.sto hS25_21 (by omega)
                            replace hRL0 := hRL0.sto hS25_21 (by omega)
                            replace hRL2 := hRL2.sto hS25_21 (by omega)
                            replace hUd25 := hUd25.sto hS25_21 (by omega)
                            replace hB11 := hB11.sto hS25_21 (by omega)
                            replace hT := hT.sto hS25_21 (by omega)
                            replace hB9 : Blk w25_21 _ _ [_, _, _] := hS25_21.blk
                            refine ⟨fun _ _ => trivial, fun _ hx => ⟨hUd25.rg hx (by omega), trivial⟩, ?_⟩
                            have hSd25 := (Rg.refl : Rg w23.heap.size wL2.heap.size 0 0 w25_21 w25_21)
                            have hUd25 := (Rg.refl : Rg w23.heap.size wL2.heap.size 0 0 w25_21 w25_21)
                            refine PY_h rfl rfl (fun wq hq => ev_fieldAddr fo31_2 rfl) ?_
                            refine PY_a ?_
                            refine PB_s w23.heap.size wL2.heap.size 0 0 w23.heap.size wL2.heap.size 0 0 rfl (ev_store sz23 rfl rfl rfl hB9 (by simp)) ?_
                            rintro _ w25_23 hS25_23
                            have hz25_23 := hS25_23.size
                            replace hE := hE.sto hS25_23 (by omega)
                            replace hRL0 := hRL0.sto hS25_23 (by omega)
                            replace hRL2 := hRL2.sto hS25_23 (by omega)
                            replace hUd25 := hUd25.sto hS25_23 (by omega)
                            replace hSd25 := hSd25.sto hS25_23 (by omega)
                            replace hB11 := hB11.sto hS25_23 (by omega)
                            replace hT := hT.sto hS25_23 (by omega)
                            replace hB9 : Blk w25_23 _ _ [_, _, _] := hS25_23.blk
                            refine ⟨fun _ hx => ⟨hSd25.rg hx (by omega), trivial⟩, fun _ hx => ⟨hUd25.rg hx (by omega), trivial⟩, ?_⟩
                            have hSd25 := (Rg.refl : Rg w23.heap.size wL2.heap.size 0 0 w25_23 w25_23)
                            have hUd25 := (Rg.refl : Rg w23.heap.size wL2.heap.size 0 0 w25_23 w25_23)
                            exact PY_nil 22 (a132, c132, a137, c137, a147, c147, vs2 ++ [(some ⟨gz, 0, none⟩, zlW A.ends d (kidW A.ends i z k))]) rfl ⟨lkS rfl hkl1.symm, trivial⟩ rfl ⟨(hT.re ⟨by omega, by omega⟩).up (by omega) (by omega), by rw [hRl1, hIl1]; exact hB9, hB11, hRL2, hRL0, hE⟩
                        · refine PB_m w23.heap.size wL2.heap.size b9 (b9 + 1) w23.heap.size wL2.heap.size 0 0 rfl rfl (ev_lit1 Try.underlying23 el3 (by decide) (by decide) rfl rfl) ?_
                          rintro _ w146 ⟨rfl, hN146⟩
                          have hz146 := hN146.size
                          replace hE := hE.trans hN146.ext
                          replace hRL0 := hRL0.trans hN146.ext
                          replace hRL2 := hRL2.trans hN146.ext
                          replace hSd25 := hSd25.trans hN146.ext
                          replace hUd25 := hUd25.trans hN146.ext
                          replace hA := hA.ext hN146.ext
                          replace hB3 := hB3.ext hN146.ext
                          replace hB11 := hB11.ext hN146.ext
                          replace hB9 := hB9.ext hN146.ext
                          replace hB13 := hB13.ext hN146.ext
                          replace hB14 := hB14.ext hN146.ext
                          replace hZ := hZ.ext hN146.ext
                          replace hT := hT.ext hN146.ext
                          have hB146 := hN146.blk
                          refine ⟨fun _ hx => ⟨hSd25.rg hx (by omega), trivial⟩, fun _ hx => ⟨hUd25.rg hx (by omega), trivial⟩, ?_⟩
                          have hSd25 := (Rg.refl : Rg w23.heap.size wL2.heap.size b9 (b9 + 1) w146 w146)
                          have hUd25 := (Rg.refl : Rg w23.heap.size wL2.heap.size 0 0 w146 w146)
                          refine PY_b ?_ ?_
                          · refine PB_m w23.heap.size wL2.heap.size b9 (b9 + 1) w23.heap.size wL2.heap.size 0 0 rfl rfl (ev_lit1 Try.underlying78 el77 (by decide) (by decide) rfl rfl) ?_
                            rintro _ w131 ⟨rfl, hN131⟩
                            have hz131 := hN131.size
                            replace hE := hE.trans hN131.ext
                            replace hRL0 := hRL0.trans hN131.ext
                            replace hRL2 := hRL2.trans hN131.ext
                            replace hSd25 := hSd25.trans hN131.ext
                            replace hUd25 := hUd25.trans hN131.ext
                            replace hA := hA.ext hN131.ext
                            replace hB3 := hB3.ext hN131.ext
                            replace hB11 := hB11.ext hN131.ext
                            replace hB9 := hB9.ext hN131.ext
                            replace hB13 := hB13.ext hN131.ext
                            replace hB14 := hB14.ext hN131.ext
                            replace hZ := hZ.ext hN131.ext
                            replace hT := hT.ext hN131.ext
                            replace hB146 := hB146.ext hN131.ext
                            have hB131 := hN131.blk
                            refine ⟨fun _ hx => ⟨hSd25.rg hx (by omega), trivial⟩, fun _ hx => ⟨hUd25.rg hx (by omega), trivial⟩, ?_⟩
                            have hSd25 := (Rg.refl : Rg w23.heap.size wL2.heap.size b9 (b9 + 1) w131 w131)
                            have hUd25 := (Rg.refl : Rg w23.heap.size wL2.heap.size 0 0 w131 w131)
                            refine PY_b ?_ ?_
                            · have hP132 := hT.wks
                              have hgz2 := hZ.lt
                              have hT1 := hT.ow
                              refine PB_m w23.heap.size wL2.heap.size b9 (b9 + 1) w23.heap.size wL2.heap.size 0 0 rfl rfl (ev_append Try.underlying78 el77 rfl (by decide) rfl rfl hP132 (SAt.of_blk (cs := [_, _, _]) (ds := []) hB131) rfl (by simp [Value.oneCell']) (by omega) (by unfold maxLen; omega) (by omega)) ?_
                              rintro _ w132 ⟨a132, c132, rfl, hO132, hK132, hQ132⟩
                              have hz132 := hK132.size
                              replace hE := hE.app hK132 (fun q hq => by have h1 := hT1 q hq; omega)
                              replace hRL0 := hRL0.app hK132 (fun q hq => by have h1 := hT1 q hq; omega)
                              replace hRL2 := hRL2.app hK132 (fun q hq => by have h1 := hT1 q hq; omega)
                              replace hSd25 := hSd25.app hK132 (fun q hq => by have h1 := hT1 q hq; omega)
                              replace hUd25 := hUd25.app hK132 (fun q hq => by have h1 := hT1 q hq; omega)
                              replace hB11 := hB11.keep hK132 ⟨hB11.lt, fun q hq => by have h1 := hT1 q hq; omega⟩
                              replace hB9 := hB9.keep hK132 ⟨hB9.lt, fun q hq => by have h1 := hT1 q hq; omega⟩
                              replace hB13 := hB13.keep hK132 ⟨hB13.lt, fun q hq => by have h1 := hT1 q hq; omega⟩
                              replace hB14 := hB14.keep hK132 ⟨hB14.lt, fun q hq => by have h1 := hT1 q hq; omega⟩
                              replace hZ := hZ.keep hK132 ⟨hZ.lt, fun q hq => by have h1 := hT1 q hq; omega⟩
                              replace hB146 := hB146.keep hK132 ⟨hB146.lt, fun q hq => by have h1 := hT1 q hq; omega⟩
                              have hP132 := hO132
                              replace hT := hT.pushW (z := (kidW A.ends i z k)) hK132 (by rw [hkx.1, hkx.2]; exact hO132) rfl hQ132 ⟨by omega, by omega, by omega⟩
                              refine ⟨fun _ hx => ⟨hSd25.rg hx (by omega), trivial⟩, fun _ hx => ⟨hUd25.rg hx (by omega), trivial⟩, ?_⟩
                              have hSd25 := (Rg.refl : Rg w23.heap.size wL2.heap.size b9 (b9 + 1) w132 w132)
                              have hUd25 := (Rg.refl : Rg w23.heap.size wL2.heap.size 0 0 w132 w132)
                              refine PY_a ?_
                              refine PB_m w23.heap.size wL2.heap.size b9 (b9 + 1) w23.heap.size wL2.heap.size 0 0 rfl rfl (ev_lit1 Try.underlying29 el56 (by decide) (by decide) rfl rfl) ?_
                              rintro _ w136 ⟨rfl, hN136⟩
                              have hz136 := hN136.size
                              replace hE := hE.trans hN136.ext
                              replace hRL0 := hRL0.trans hN136.ext
                              replace hRL2 := hRL2.trans hN136.ext
                              replace hSd25 := hSd25.trans hN136.ext
                              replace hUd25 := hUd25.trans hN136.ext
                              replace hB11 := hB11.ext hN136.ext
                              replace hB9 := hB9.ext hN136.ext
                              replace hB13 := hB13.ext hN136.ext
                              replace hB14 := hB14.ext hN136.ext
                              replace hZ := hZ.ext hN136.ext
                              replace hB146 := hB146.ext hN136.ext
                              replace hT := hT.ext hN136.ext
                              have hB136 := hN136.blk
                              refine ⟨fun _ hx => ⟨hSd25.rg hx (by omega), trivial⟩, fun _ hx => ⟨hUd25.rg hx (by omega), trivial⟩, ?_⟩
                              have hSd25 := (Rg.refl : Rg w23.heap.size wL2.heap.size b9 (b9 + 1) w136 w136)
                              have hUd25 := (Rg.refl : Rg w23.heap.size wL2.heap.size 0 0 w136 w136)
                              refine PY_a ?_
                              have hP137 := hT.net.rows.out
                              dsimp only at hP137
                              rw [List.length_set] at hP137
                              have hT1 := hT.o1
                              have hJ9 := hT.o3
                              have hyz := Own.of_front (lo := w23.heap.size) (n := ((zrW A.ends d (kidW A.ends i z k)).set (qFW d (kidW A.ends i z k)).toNat ((i : Int), (k : Int))).length) (c := zlW A.ends d (kidW A.ends i z k)) (sz := 2) (rest := []) (by rw [List.append_nil]; exact hZ) (by omega) (by rw [List.length_set, zrW_len]; exact Nat.le_refl _) hz6 (by rw [List.append_nil, pairCells_length, List.length_set, zrW_len]) (by rw [pairCells_length])
                              refine PB_m w23.heap.size wL2.heap.size b9 (b9 + 1) w23.heap.size wL2.heap.size 0 0 rfl rfl (ev_append Try.underlying29 el56 rfl (by decide) rfl rfl hP137 (SAt.of_blk (cs := [_]) (ds := []) hB136) rfl (by simp [Value.oneCell']) (by omega) (by unfold maxLen; omega) (by omega)) ?_
                              rintro _ w137 ⟨a137, c137, rfl, hO137, hK137, hQ137⟩
                              have hz137 := hK137.size
                              replace hE := hE.app hK137 (fun q hq => by have h1 := hT1 q hq; omega)
                              replace hRL0 := hRL0.app hK137 (fun q hq => by have h1 := hT1 q hq; omega)
                              replace hRL2 := hRL2.app hK137 (fun q hq => by have h1 := hT1 q hq; omega)
                              replace hSd25 := hSd25.app hK137 (fun q hq => by have h1 := hT1 q hq; omega)
                              replace hUd25 := hUd25.app hK137 (fun q hq => by have h1 := hT1 q hq; omega)
                              replace hB11 := hB11.keep hK137 ⟨hB11.lt, fun q hq => by have h1 := hT1 q hq; omega⟩
                              replace hB9 := hB9.keep hK137 ⟨hB9.lt, fun q hq => by have h1 := hT1 q hq; omega⟩
                              replace hB146 := hB146.keep hK137 ⟨hB146.lt, fun q hq => by have h1 := hT1 q hq; omega⟩
                              have hP137 := hO137
                              replace hT := hT.pushRow hyz ⟨by omega, by omega, by omega⟩ hK137 (by rw [List.length_set, zrW_len]; exact hO137) (by rw [List.length_set]) hQ137 ⟨by omega, by omega⟩ ⟨by omega, by omega⟩
                              dsimp only at hT
                              refine ⟨fun _ hx => ⟨hSd25.rg hx (by omega), trivial⟩, fun _ hx => ⟨hUd25.rg hx (by omega), trivial⟩, ?_⟩
                              have hSd25 := (Rg.refl : Rg w23.heap.size wL2.heap.size b9 (b9 + 1) w137 w137)
                              have hUd25 := (Rg.refl : Rg w23.heap.size wL2.heap.size 0 0 w137 w137)
                              refine PY_a ?_
                              have hP147 := hT.net.inp.1
                              dsimp only at hP147
                              have hT1 : ∀ q, a32 = some q → (w23.heap.size ≤ q.block ∧ q.block < wL2.heap.size) ∧ q.block ≠ b9 ∧ q.block ≠ wL0.heap.size ∧ q.block ≠ gz := hJ9
                              refine PB_m w23.heap.size wL2.heap.size b9 (b9 + 1) w23.heap.size wL2.heap.size 0 0 rfl rfl (ev_append Try.underlying23 el3 rfl (by decide) rfl rfl hP147 (SAt.of_blk (cs := [_]) (ds := []) hB146) rfl (by simp [Value.oneCell']) (by omega) (by unfold maxLen; omega) (by omega)) ?_
                              rintro _ w147 ⟨a147, c147, rfl, hO147, hK147, hQ147⟩
                              have hz147 := hK147.size
                              replace hE := hE.app hK147 (fun q hq => by have h1 := hT1 q hq; omega)
                              replace hRL0 := hRL0.app hK147 (fun q hq => by have h1 := hT1 q hq; omega)
                              replace hRL2 := hRL2.app hK147 (fun q hq => by have h1 := hT1 q hq; omega)
                              replace hSd25 := hSd25.app hK147 (fun q hq => by have h1 := hT1 q hq; omega)
                              replace hUd25 := hUd25.app hK147 (fun q hq => by have h1 := hT1 q hq; omega)
                              replace hB11 := hB11.keep hK147 ⟨hB11.lt, fun q hq => by have h1 := hT1 q hq; omega⟩
                              replace hB9 := hB9.keep hK147 ⟨hB9.lt, fun q hq => by have h1 := hT1 q hq; omega⟩
                              have hP147 := hO147
                              replace hT := hT.pushInp hK147 hO147 rfl hQ147 ⟨by omega, by omega⟩ ⟨by omega, by omega, by omega⟩
                              dsimp only at hT
                              replace hT := hT.to (show _ = (uK A.ends i z (uN A.ends v d i) (k + 1)) from (uK_new hp84).symm) (show _ = (⟨RI A.ends d (uK A.ends i z (uN A.ends v d i) (k + 1)), [], (uK A.ends i z (uN A.ends v d i) (k + 1)).map (inpW A)⟩ : Net) by rw [uK_new hp84, RI_kid hirk, List.map_append, List.map_singleton, kid_inp hl73 hlk (by omega)])
                              refine ⟨fun _ hx => ⟨hSd25.rg hx (by omega), trivial⟩, fun _ hx => ⟨hUd25.rg hx (by omega), trivial⟩, ?_⟩
                              have hSd25 := (Rg.refl : Rg w23.heap.size wL2.heap.size b9 (b9 + 1) w147 w147)
                              have hUd25 := (Rg.refl : Rg w23.heap.size wL2.heap.size 0 0 w147 w147)
                              refine PY_q rfl rfl (fun wq hq => ev_assign rfl) ?_
                              refine PY_q rfl rfl (fun wq hq => ev_fieldAddr fo31_0 rfl) ?_
                              refine PY_z ?_
                              refine PB_s w23.heap.size wL2.heap.size 0 0 w23.heap.size wL2.heap.size 0 0 rfl (ev_store sz29 rfl rfl rfl hB9 (by simp)) ?_
                              rintro _ w25_21 hS25_21
                              have hz25_21 := hS25_21.size
                              replace hE := hE.sto hS25_21 (by omega)
                              replace hRL0 := hRL0.sto hS25_21 (by omega)
                              replace hRL2 := hRL2.sto hS25_21 (by omega)
                              replace hUd25 := hUd25.sto hS25_21 (by omega)
                              replace hB11 := hB11.sto hS25_21 (by omega)
                              replace hT := hT.sto hS25_21 (by omega)
                              replace hB9 : Blk w25_21 _ _ [_, _, _] := hS25_21.blk
                              refine ⟨fun _ _ => trivial, fun _ hx => ⟨hUd25.rg hx (by omega), trivial⟩, ?_⟩
                              have hSd25 := (Rg.refl : Rg w23.heap.size wL2.heap.size 0 0 w25_21 w25_21)
                              have hUd25 := (Rg.refl : Rg w23.heap.size wL2.heap.size 0 0 w25_21 w25_21)
                              refine PY_h rfl rfl (fun wq hq => ev_fieldAddr fo31_2 rfl) ?_
                              refine PY_a ?_
                              refine PB_s w23.heap.size wL2.heap.size 0 0 w23.heap.size wL2.heap.size 0 0 rfl (ev_store sz23 rfl rfl rfl hB9 (by simp)) ?_
                              rintro _ w25_23 hS25_23
                              have hz25_23 := hS25_23.size
                              replace hE := hE.sto hS25_23 (by omega)
                              replace hRL0 := hRL0.sto hS25_23 (by omega)
                              replace hRL2 := hRL2.sto hS25_23 (by omega)
                              replace hUd25 := hUd25.sto hS25_23 (by omega)
                              replace hSd25 := hSd25.sto hS25_23 (by omega)
                              replace hB11 := hB11.sto hS25_23 (by omega)
                              replace hT := hT.sto hS25_23 (by omega)
                              replace hB9 : Blk w25_23 _ _ [_, _, _] := hS25_23.blk
                              refine ⟨fun _ hx => ⟨hSd25.rg hx (by omega), trivial⟩, fun _ hx => ⟨hUd25.rg hx (by omega), trivial⟩, ?_⟩
                              have hSd25 := (Rg.refl : Rg w23.heap.size wL2.heap.size 0 0 w25_23 w25_23)
                              have hUd25 := (Rg.refl : Rg w23.heap.size wL2.heap.size 0 0 w25_23 w25_23)
                              exact PY_nil 22 (a132, c132, a137, c137, a147, c147, vs2 ++ [(some ⟨gz, 0, none⟩, zlW A.ends d (kidW A.ends i z k))]) rfl ⟨lkS rfl hkl1.symm, trivial⟩ rfl ⟨(hT.re ⟨by omega, by omega⟩).up (by omega) (by omega), by rw [hRl1, hIl1]; exact hB9, hB11, hRL2, hRL0, hE⟩
                            · refine PB_m w23.heap.size wL2.heap.size b9 (b9 + 1) w23.heap.size wL2.heap.size 0 0 rfl rfl (ev_lit1 Try.underlying29 el56 (by decide) (by decide) rfl rfl) ?_
                              rintro _ w136 ⟨rfl, hN136⟩
                              have hz136 := hN136.size
                              replace hE := hE.trans hN136.ext
                              replace hRL0 := hRL0.trans hN136.ext
                              replace hRL2 := hRL2.trans hN136.ext
                              replace hSd25 := hSd25.trans hN136.ext
                              replace hUd25 := hUd25.trans hN136.ext
                              replace hA := hA.ext hN136.ext
                              replace hB3 := hB3.ext hN136.ext
                              replace hB11 := hB11.ext hN136.ext
                              replace hB9 := hB9.ext hN136.ext
                              replace hB13 := hB13.ext hN136.ext
                              replace hB14 := hB14.ext hN136.ext
                              replace hZ := hZ.ext hN136.ext
                              replace hT := hT.ext hN136.ext
                              replace hB146 := hB146.ext hN136.ext
                              replace hB131 := hB131.ext hN136.ext
                              have hB136 := hN136.blk
                              refine ⟨fun _ hx => ⟨hSd25.rg hx (by omega), trivial⟩, fun _ hx => ⟨hUd25.rg hx (by omega), trivial⟩, ?_⟩
                              have hSd25 := (Rg.refl : Rg w23.heap.size wL2.heap.size b9 (b9 + 1) w136 w136)
                              have hUd25 := (Rg.refl : Rg w23.heap.size wL2.heap.size 0 0 w136 w136)
                              refine PY_a ?_
                              have hP132 := hT.wks
                              have hgz2 := hZ.lt
                              have hT1 := hT.ow
                              refine PB_m w23.heap.size wL2.heap.size b9 (b9 + 1) w23.heap.size wL2.heap.size 0 0 rfl rfl (ev_append Try.underlying78 el77 rfl (by decide) rfl rfl hP132 (SAt.of_blk (cs := [_, _, _]) (ds := []) hB131) rfl (by simp [Value.oneCell']) (by omega) (by unfold maxLen; omega) (by omega)) ?_
                              rintro _ w132 ⟨a132, c132, rfl, hO132, hK132, hQ132⟩
                              have hz132 := hK132.size
                              replace hE := hE.app hK132 (fun q hq => by have h1 := hT1 q hq; omega)
                              replace hRL0 := hRL0.app hK132 (fun q hq => by have h1 := hT1 q hq; omega)
                              replace hRL2 := hRL2.app hK132 (fun q hq => by have h1 := hT1 q hq; omega)
                              replace hSd25 := hSd25.app hK132 (fun q hq => by have h1 := hT1 q hq; omega)
                              replace hUd25 := hUd25.app hK132 (fun q hq => by have h1 := hT1 q hq; omega)
                              replace hB11 := hB11.keep hK132 ⟨hB11.lt, fun q hq => by have h1 := hT1 q hq; omega⟩
                              replace hB9 := hB9.keep hK132 ⟨hB9.lt, fun q hq => by have h1 := hT1 q hq; omega⟩
                              replace hB13 := hB13.keep hK132 ⟨hB13.lt, fun q hq => by have h1 := hT1 q hq; omega⟩
                              replace hB14 := hB14.keep hK132 ⟨hB14.lt, fun q hq => by have h1 := hT1 q hq; omega⟩
                              replace hZ := hZ.keep hK132 ⟨hZ.lt, fun q hq => by have h1 := hT1 q hq; omega⟩
                              replace hB146 := hB146.keep hK132 ⟨hB146.lt, fun q hq => by have h1 := hT1 q hq; omega⟩
                              replace hB136 := hB136.keep hK132 ⟨hB136.lt, fun q hq => by have h1 := hT1 q hq; omega⟩
                              have hP132 := hO132
                              replace hT := hT.pushW (z := (kidW A.ends i z k)) hK132 (by rw [hkx.1, hkx.2]; exact hO132) rfl hQ132 ⟨by omega, by omega, by omega⟩
                              refine ⟨fun _ hx => ⟨hSd25.rg hx (by omega), trivial⟩, fun _ hx => ⟨hUd25.rg hx (by omega), trivial⟩, ?_⟩
                              have hSd25 := (Rg.refl : Rg w23.heap.size wL2.heap.size b9 (b9 + 1) w132 w132)
                              have hUd25 := (Rg.refl : Rg w23.heap.size wL2.heap.size 0 0 w132 w132)
                              refine PY_a ?_
                              have hP137 := hT.net.rows.out
                              dsimp only at hP137
                              rw [List.length_set] at hP137
                              have hT1 := hT.o1
                              have hJ9 := hT.o3
                              have hyz := Own.of_front (lo := w23.heap.size) (n := ((zrW A.ends d (kidW A.ends i z k)).set (qFW d (kidW A.ends i z k)).toNat ((i : Int), (k : Int))).length) (c := zlW A.ends d (kidW A.ends i z k)) (sz := 2) (rest := []) (by rw [List.append_nil]; exact hZ) (by omega) (by rw [List.length_set, zrW_len]; exact Nat.le_refl _) hz6 (by rw [List.append_nil, pairCells_length, List.length_set, zrW_len]) (by rw [pairCells_length])
                              refine PB_m w23.heap.size wL2.heap.size b9 (b9 + 1) w23.heap.size wL2.heap.size 0 0 rfl rfl (ev_append Try.underlying29 el56 rfl (by decide) rfl rfl hP137 (SAt.of_blk (cs := [_]) (ds := []) hB136) rfl (by simp [Value.oneCell']) (by omega) (by unfold maxLen; omega) (by omega)) ?_
                              rintro _ w137 ⟨a137, c137, rfl, hO137, hK137, hQ137⟩
                              have hz137 := hK137.size
                              replace hE := hE.app hK137 (fun q hq => by have h1 := hT1 q hq; omega)
                              replace hRL0 := hRL0.app hK137 (fun q hq => by have h1 := hT1 q hq; omega)
                              replace hRL2 := hRL2.app hK137 (fun q hq => by have h1 := hT1 q hq; omega)
                              replace hSd25 := hSd25.app hK137 (fun q hq => by have h1 := hT1 q hq; omega)
                              replace hUd25 := hUd25.app hK137 (fun q hq => by have h1 := hT1 q hq; omega)
                              replace hB11 := hB11.keep hK137 ⟨hB11.lt, fun q hq => by have h1 := hT1 q hq; omega⟩
                              replace hB9 := hB9.keep hK137 ⟨hB9.lt, fun q hq => by have h1 := hT1 q hq; omega⟩
                              replace hB146 := hB146.keep hK137 ⟨hB146.lt, fun q hq => by have h1 := hT1 q hq; omega⟩
                              have hP137 := hO137
                              replace hT := hT.pushRow hyz ⟨by omega, by omega, by omega⟩ hK137 (by rw [List.length_set, zrW_len]; exact hO137) (by rw [List.length_set]) hQ137 ⟨by omega, by omega⟩ ⟨by omega, by omega⟩
                              dsimp only at hT
                              refine ⟨fun _ hx => ⟨hSd25.rg hx (by omega), trivial⟩, fun _ hx => ⟨hUd25.rg hx (by omega), trivial⟩, ?_⟩
                              have hSd25 := (Rg.refl : Rg w23.heap.size wL2.heap.size b9 (b9 + 1) w137 w137)
                              have hUd25 := (Rg.refl : Rg w23.heap.size wL2.heap.size 0 0 w137 w137)
                              refine PY_a ?_
                              have hP147 := hT.net.inp.1
                              dsimp only at hP147
                              have hT1 : ∀ q, a32 = some q → (w23.heap.size ≤ q.block ∧ q.block < wL2.heap.size) ∧ q.block ≠ b9 ∧ q.block ≠ wL0.heap.size ∧ q.block ≠ gz := hJ9
                              refine PB_m w23.heap.size wL2.heap.size b9 (b9 + 1) w23.heap.size wL2.heap.size 0 0 rfl rfl (ev_append Try.underlying23 el3 rfl (by decide) rfl rfl hP147 (SAt.of_blk (cs := [_]) (ds := []) hB146) rfl (by simp [Value.oneCell']) (by omega) (by unfold maxLen; omega) (by omega)) ?_
                              rintro _ w147 ⟨a147, c147, rfl, hO147, hK147, hQ147⟩
                              have hz147 := hK147.size
                              replace hE := hE.app hK147 (fun q hq => by have h1 := hT1 q hq; omega)
                              replace hRL0 := hRL0.app hK147 (fun q hq => by have h1 := hT1 q hq; omega)
                              replace hRL2 := hRL2.app hK147 (fun q hq => by have h1 := hT1 q hq; omega)
                              replace hSd25 := hSd25.app hK147 (fun q hq => by have h1 := hT1 q hq; omega)
                              replace hUd25 := hUd25.app hK147 (fun q hq => by have h1 := hT1 q hq; omega)
                              replace hB11 := hB11.keep hK147 ⟨hB11.lt, fun q hq => by have h1 := hT1 q hq; omega⟩
                              replace hB9 := hB9.keep hK147 ⟨hB9.lt, fun q hq => by have h1 := hT1 q hq; omega⟩
                              have hP147 := hO147
                              replace hT := hT.pushInp hK147 hO147 rfl hQ147 ⟨by omega, by omega⟩ ⟨by omega, by omega, by omega⟩
                              dsimp only at hT
                              replace hT := hT.to (show _ = (uK A.ends i z (uN A.ends v d i) (k + 1)) from (uK_new hp84).symm) (show _ = (⟨RI A.ends d (uK A.ends i z (uN A.ends v d i) (k + 1)), [], (uK A.ends i z (uN A.ends v d i) (k + 1)).map (inpW A)⟩ : Net) by rw [uK_new hp84, RI_kid hirk, List.map_append, List.map_singleton, kid_inp hl73 hlk (by omega)])
                              refine ⟨fun _ hx => ⟨hSd25.rg hx (by omega), trivial⟩, fun _ hx => ⟨hUd25.rg hx (by omega), trivial⟩, ?_⟩
                              have hSd25 := (Rg.refl : Rg w23.heap.size wL2.heap.size b9 (b9 + 1) w147 w147)
                              have hUd25 := (Rg.refl : Rg w23.heap.size wL2.heap.size 0 0 w147 w147)
                              refine PY_q rfl rfl (fun wq hq => ev_assign rfl) ?_
                              refine PY_q rfl rfl (fun wq hq => ev_fieldAddr fo31_0 rfl) ?_
                              refine PY_z ?_
                              refine PB_s w23.heap.size wL2.heap.size 0 0 w23.heap.size wL2.heap.size 0 0 rfl (ev_store sz29 rfl rfl rfl hB9 (by simp)) ?_
                              rintro _ w25_21 hS25_21
                              have hz25_21 := hS25_21.size
                              replace hE := hE.sto hS25_21 (by omega)
                              replace hRL0 := hRL0.sto hS25_21 (by omega)
                              replace hRL2 := hRL2.sto hS25_21 (by omega)
                              replace hUd25 := hUd25.sto hS25_21 (by omega)
                              replace hB11 := hB11.sto hS25_21 (by omega)
                              replace hT := hT.sto hS25_21 (by omega)
                              replace hB9 : Blk w25_21 _ _ [_, _, _] := hS25_21.blk
                              refine ⟨fun _ _ => trivial, fun _ hx => ⟨hUd25.rg hx (by omega), trivial⟩, ?_⟩
                              have hSd25 := (Rg.refl : Rg w23.heap.size wL2.heap.size 0 0 w25_21 w25_21)
                              have hUd25 := (Rg.refl : Rg w23.heap.size wL2.heap.size 0 0 w25_21 w25_21)
                              refine PY_h rfl rfl (fun wq hq => ev_fieldAddr fo31_2 rfl) ?_
                              refine PY_a ?_
                              refine PB_s w23.heap.size wL2.heap.size 0 0 w23.heap.size wL2.heap.size 0 0 rfl (ev_store sz23 rfl rfl rfl hB9 (by simp)) ?_
                              rintro _ w25_23 hS25_23
                              have hz25_23 := hS25_23.size
                              replace hE := hE.sto hS25_23 (by omega)
                              replace hRL0 := hRL0.sto hS25_23 (by omega)
                              replace hRL2 := hRL2.sto hS25_23 (by omega)
                              replace hUd25 := hUd25.sto hS25_23 (by omega)
                              replace hSd25 := hSd25.sto hS25_23 (by omega)
                              replace hB11 := hB11.sto hS25_23 (by omega)
                              replace hT := hT.sto hS25_23 (by omega)
                              replace hB9 : Blk w25_23 _ _ [_, _, _] := hS25_23.blk
                              refine ⟨fun _ hx => ⟨hSd25.rg hx (by omega), trivial⟩, fun _ hx => ⟨hUd25.rg hx (by omega), trivial⟩, ?_⟩
                              have hSd25 := (Rg.refl : Rg w23.heap.size wL2.heap.size 0 0 w25_23 w25_23)
                              have hUd25 := (Rg.refl : Rg w23.heap.size wL2.heap.size 0 0 w25_23 w25_23)
                              exact PY_nil 22 (a132, c132, a137, c137, a147, c147, vs2 ++ [(some ⟨gz, 0, none⟩, zlW A.ends d (kidW A.ends i z k))]) rfl ⟨lkS rfl hkl1.symm, trivial⟩ rfl ⟨(hT.re ⟨by omega, by omega⟩).up (by omega) (by omega), by rw [hRl1, hIl1]; exact hB9, hB11, hRL2, hRL0, hE⟩
                          · refine PB_m w23.heap.size wL2.heap.size b9 (b9 + 1) w23.heap.size wL2.heap.size 0 0 rfl rfl (ev_lit1 Try.underlying29 el56 (by decide) (by decide) rfl rfl) ?_
                            rintro _ w136 ⟨rfl, hN136⟩
                            have hz136 := hN136.size
                            replace hE := hE.trans hN136.ext
                            replace hRL0 := hRL0.trans hN136.ext
                            replace hRL2 := hRL2.trans hN136.ext
                            replace hSd25 := hSd25.trans hN136.ext
                            replace hUd25 := hUd25.trans hN136.ext
                            replace hA := hA.ext hN136.ext
                            replace hB3 := hB3.ext hN136.ext
                            replace hB11 := hB11.ext hN136.ext
                            replace hB9 := hB9.ext hN136.ext
                            replace hB13 := hB13.ext hN136.ext
                            replace hB14 := hB14.ext hN136.ext
                            replace hZ := hZ.ext hN136.ext
                            replace hT := hT.ext hN136.ext
                            replace hB146 := hB146.ext hN136.ext
                            have hB136 := hN136.blk
                            refine ⟨fun _ hx => ⟨hSd25.rg hx (by omega), trivial⟩, fun _ hx => ⟨hUd25.rg hx (by omega), trivial⟩, ?_⟩
                            have hSd25 := (Rg.refl : Rg w23.heap.size wL2.heap.size b9 (b9 + 1) w136 w136)
                            have hUd25 := (Rg.refl : Rg w23.heap.size wL2.heap.size 0 0 w136 w136)
                            refine PY_a ?_
                            refine PB_m w23.heap.size wL2.heap.size b9 (b9 + 1) w23.heap.size wL2.heap.size 0 0 rfl rfl (ev_lit1 Try.underlying78 el77 (by decide) (by decide) rfl rfl) ?_
                            rintro _ w131 ⟨rfl, hN131⟩
                            have hz131 := hN131.size
                            replace hE := hE.trans hN131.ext
                            replace hRL0 := hRL0.trans hN131.ext
                            replace hRL2 := hRL2.trans hN131.ext
                            replace hSd25 := hSd25.trans hN131.ext
                            replace hUd25 := hUd25.trans hN131.ext
                            replace hA := hA.ext hN131.ext
                            replace hB3 := hB3.ext hN131.ext
                            replace hB11 := hB11.ext hN131.ext
                            replace hB9 := hB9.ext hN131.ext
                            replace hB13 := hB13.ext hN131.ext
                            replace hB14 := hB14.ext hN131.ext
                            replace hZ := hZ.ext hN131.ext
                            replace hT := hT.ext hN131.ext
                            replace hB146 := hB146.ext hN131.ext
                            replace hB136 := hB136.ext hN131.ext
                            have hB131 := hN131.blk
                            refine ⟨fun _ hx => ⟨hSd25.rg hx (by omega), trivial⟩, fun _ hx => ⟨hUd25.rg hx (by omega), trivial⟩, ?_⟩
                            have hSd25 := (Rg.refl : Rg w23.heap.size wL2.heap.size b9 (b9 + 1) w131 w131)
                            have hUd25 := (Rg.refl : Rg w23.heap.size wL2.heap.size 0 0 w131 w131)
                            refine PY_a ?_
                            have hP132 := hT.wks
                            have hgz2 := hZ.lt
                            have hT1 := hT.ow
                            refine PB_m w23.heap.size wL2.heap.size b9 (b9 + 1) w23.heap.size wL2.heap.size 0 0 rfl rfl (ev_append Try.underlying78 el77 rfl (by decide) rfl rfl hP132 (SAt.of_blk (cs := [_, _, _]) (ds := []) hB131) rfl (by simp [Value.oneCell']) (by omega) (by unfold maxLen; omega) (by omega)) ?_
                            rintro _ w132 ⟨a132, c132, rfl, hO132, hK132, hQ132⟩
                            have hz132 := hK132.size
                            replace hE := hE.app hK132 (fun q hq => by have h1 := hT1 q hq; omega)
                            replace hRL0 := hRL0.app hK132 (fun q hq => by have h1 := hT1 q hq; omega)
                            replace hRL2 := hRL2.app hK132 (fun q hq => by have h1 := hT1 q hq; omega)
                            replace hSd25 := hSd25.app hK132 (fun q hq => by have h1 := hT1 q hq; omega)
                            replace hUd25 := hUd25.app hK132 (fun q hq => by have h1 := hT1 q hq; omega)
                            replace hB11 := hB11.keep hK132 ⟨hB11.lt, fun q hq => by have h1 := hT1 q hq; omega⟩
                            replace hB9 := hB9.keep hK132 ⟨hB9.lt, fun q hq => by have h1 := hT1 q hq; omega⟩
                            replace hB13 := hB13.keep hK132 ⟨hB13.lt, fun q hq => by have h1 := hT1 q hq; omega⟩
                            replace hB14 := hB14.keep hK132 ⟨hB14.lt, fun q hq => by have h1 := hT1 q hq; omega⟩
                            replace hZ := hZ.keep hK132 ⟨hZ.lt, fun q hq => by have h1 := hT1 q hq; omega⟩
                            replace hB146 := hB146.keep hK132 ⟨hB146.lt, fun q hq => by have h1 := hT1 q hq; omega⟩
                            replace hB136 := hB136.keep hK132 ⟨hB136.lt, fun q hq => by have h1 := hT1 q hq; omega⟩
                            have hP132 := hO132
                            replace hT := hT.pushW (z := (kidW A.ends i z k)) hK132 (by rw [hkx.1, hkx.2]; exact hO132) rfl hQ132 ⟨by omega, by omega, by omega⟩
                            refine ⟨fun _ hx => ⟨hSd25.rg hx (by omega), trivial⟩, fun _ hx => ⟨hUd25.rg hx (by omega), trivial⟩, ?_⟩
                            have hSd25 := (Rg.refl : Rg w23.heap.size wL2.heap.size b9 (b9 + 1) w132 w132)
                            have hUd25 := (Rg.refl : Rg w23.heap.size wL2.heap.size 0 0 w132 w132)
                            refine PY_a ?_
                            have hP137 := hT.net.rows.out
                            dsimp only at hP137
                            rw [List.length_set] at hP137
                            have hT1 := hT.o1
                            have hJ9 := hT.o3
                            have hyz := Own.of_front (lo := w23.heap.size) (n := ((zrW A.ends d (kidW A.ends i z k)).set (qFW d (kidW A.ends i z k)).toNat ((i : Int), (k : Int))).length) (c := zlW A.ends d (kidW A.ends i z k)) (sz := 2) (rest := []) (by rw [List.append_nil]; exact hZ) (by omega) (by rw [List.length_set, zrW_len]; exact Nat.le_refl _) hz6 (by rw [List.append_nil, pairCells_length, List.length_set, zrW_len]) (by rw [pairCells_length])
                            refine PB_m w23.heap.size wL2.heap.size b9 (b9 + 1) w23.heap.size wL2.heap.size 0 0 rfl rfl (ev_append Try.underlying29 el56 rfl (by decide) rfl rfl hP137 (SAt.of_blk (cs := [_]) (ds := []) hB136) rfl (by simp [Value.oneCell']) (by omega) (by unfold maxLen; omega) (by omega)) ?_
                            rintro _ w137 ⟨a137, c137, rfl, hO137, hK137, hQ137⟩
                            have hz137 := hK137.size
                            replace hE := hE.app hK137 (fun q hq => by have h1 := hT1 q hq; omega)
                            replace hRL0 := hRL0.app hK137 (fun q hq => by have h1 := hT1 q hq; omega)
                            replace hRL2 := hRL2.app hK137 (fun q hq => by have h1 := hT1 q hq; omega)
                            replace hSd25 := hSd25.app hK137 (fun q hq => by have h1 := hT1 q hq; omega)
                            replace hUd25 := hUd25.app hK137 (fun q hq => by have h1 := hT1 q hq; omega)
                            replace hB11 := hB11.keep hK137 ⟨hB11.lt, fun q hq => by have h1 := hT1 q hq; omega⟩
                            replace hB9 := hB9.keep hK137 ⟨hB9.lt, fun q hq => by have h1 := hT1 q hq; omega⟩
                            replace hB146 := hB146.keep hK137 ⟨hB146.lt, fun q hq => by have h1 := hT1 q hq; omega⟩
                            have hP137 := hO137
                            replace hT := hT.pushRow hyz ⟨by omega, by omega, by omega⟩ hK137 (by rw [List.length_set, zrW_len]; exact hO137) (by rw [List.length_set]) hQ137 ⟨by omega, by omega⟩ ⟨by omega, by omega⟩
                            dsimp only at hT
                            refine ⟨fun _ hx => ⟨hSd25.rg hx (by omega), trivial⟩, fun _ hx => ⟨hUd25.rg hx (by omega), trivial⟩, ?_⟩
                            have hSd25 := (Rg.refl : Rg w23.heap.size wL2.heap.size b9 (b9 + 1) w137 w137)
                            have hUd25 := (Rg.refl : Rg w23.heap.size wL2.heap.size 0 0 w137 w137)
                            refine PY_a ?_
                            have hP147 := hT.net.inp.1
                            dsimp only at hP147
                            have hT1 : ∀ q, a32 = some q → (w23.heap.size ≤ q.block ∧ q.block < wL2.heap.size) ∧ q.block ≠ b9 ∧ q.block ≠ wL0.heap.size ∧ q.block ≠ gz := hJ9
                            refine PB_m w23.heap.size wL2.heap.size b9 (b9 + 1) w23.heap.size wL2.heap.size 0 0 rfl rfl (ev_append Try.underlying23 el3 rfl (by decide) rfl rfl hP147 (SAt.of_blk (cs := [_]) (ds := []) hB146) rfl (by simp [Value.oneCell']) (by omega) (by unfold maxLen; omega) (by omega)) ?_
                            rintro _ w147 ⟨a147, c147, rfl, hO147, hK147, hQ147⟩
                            have hz147 := hK147.size
                            replace hE := hE.app hK147 (fun q hq => by have h1 := hT1 q hq; omega)
                            replace hRL0 := hRL0.app hK147 (fun q hq => by have h1 := hT1 q hq; omega)
                            replace hRL2 := hRL2.app hK147 (fun q hq => by have h1 := hT1 q hq; omega)
                            replace hSd25 := hSd25.app hK147 (fun q hq => by have h1 := hT1 q hq; omega)
                            replace hUd25 := hUd25.app hK147 (fun q hq => by have h1 := hT1 q hq; omega)
                            replace hB11 := hB11.keep hK147 ⟨hB11.lt, fun q hq => by have h1 := hT1 q hq; omega⟩
                            replace hB9 := hB9.keep hK147 ⟨hB9.lt, fun q hq => by have h1 := hT1 q hq; omega⟩
                            have hP147 := hO147
                            replace hT := hT.pushInp hK147 hO147 rfl hQ147 ⟨by omega, by omega⟩ ⟨by omega, by omega, by omega⟩
                            dsimp only at hT
                            replace hT := hT.to (show _ = (uK A.ends i z (uN A.ends v d i) (k + 1)) from (uK_new hp84).symm) (show _ = (⟨RI A.ends d (uK A.ends i z (uN A.ends v d i) (k + 1)), [], (uK A.ends i z (uN A.ends v d i) (k + 1)).map (inpW A)⟩ : Net) by rw [uK_new hp84, RI_kid hirk, List.map_append, List.map_singleton, kid_inp hl73 hlk (by omega)])
                            refine ⟨fun _ hx => ⟨hSd25.rg hx (by omega), trivial⟩, fun _ hx => ⟨hUd25.rg hx (by omega), trivial⟩, ?_⟩
                            have hSd25 := (Rg.refl : Rg w23.heap.size wL2.heap.size b9 (b9 + 1) w147 w147)
                            have hUd25 := (Rg.refl : Rg w23.heap.size wL2.heap.size 0 0 w147 w147)
                            refine PY_q rfl rfl (fun wq hq => ev_assign rfl) ?_
                            refine PY_q rfl rfl (fun wq hq => ev_fieldAddr fo31_0 rfl) ?_
                            refine PY_z ?_
                            refine PB_s w23.heap.size wL2.heap.size 0 0 w23.heap.size wL2.heap.size 0 0 rfl (ev_store sz29 rfl rfl rfl hB9 (by simp)) ?_
                            rintro _ w25_21 hS25_21
                            have hz25_21 := hS25_21.size
                            replace hE := hE.sto hS25_21 (by omega)
                            replace hRL0 := hRL0.sto hS25_21 (by omega)
                            replace hRL2 := hRL2.sto hS25_21 (by omega)
                            replace hUd25 := hUd25.sto hS25_21 (by omega)
                            replace hB11 := hB11.sto hS25_21 (by omega)
                            replace hT := hT.sto hS25_21 (by omega)
                            replace hB9 : Blk w25_21 _ _ [_, _, _] := hS25_21.blk
                            refine ⟨fun _ _ => trivial, fun _ hx => ⟨hUd25.rg hx (by omega), trivial⟩, ?_⟩
                            have hSd25 := (Rg.refl : Rg w23.heap.size wL2.heap.size 0 0 w25_21 w25_21)
                            have hUd25 := (Rg.refl : Rg w23.heap.size wL2.heap.size 0 0 w25_21 w25_21)
                            refine PY_h rfl rfl (fun wq hq => ev_fieldAddr fo31_2 rfl) ?_
                            refine PY_a ?_
                            refine PB_s w23.heap.size wL2.heap.size 0 0 w23.heap.size wL2.heap.size 0 0 rfl (ev_store sz23 rfl rfl rfl hB9 (by simp)) ?_
                            rintro _ w25_23 hS25_23
                            have hz25_23 := hS25_23.size
                            replace hE := hE.sto hS25_23 (by omega)
                            replace hRL0 := hRL0.sto hS25_23 (by omega)
                            replace hRL2 := hRL2.sto hS25_23 (by omega)
                            replace hUd25 := hUd25.sto hS25_23 (by omega)
                            replace hSd25 := hSd25.sto hS25_23 (by omega)
                            replace hB11 := hB11.sto hS25_23 (by omega)
                            replace hT := hT.sto hS25_23 (by omega)
                            replace hB9 : Blk w25_23 _ _ [_, _, _] := hS25_23.blk
                            refine ⟨fun _ hx => ⟨hSd25.rg hx (by omega), trivial⟩, fun _ hx => ⟨hUd25.rg hx (by omega), trivial⟩, ?_⟩
                            have hSd25 := (Rg.refl : Rg w23.heap.size wL2.heap.size 0 0 w25_23 w25_23)
                            have hUd25 := (Rg.refl : Rg w23.heap.size wL2.heap.size 0 0 w25_23 w25_23)
                            exact PY_nil 22 (a132, c132, a137, c137, a147, c147, vs2 ++ [(some ⟨gz, 0, none⟩, zlW A.ends d (kidW A.ends i z k))]) rfl ⟨lkS rfl hkl1.symm, trivial⟩ rfl ⟨(hT.re ⟨by omega, by omega⟩).up (by omega) (by omega), by rw [hRl1, hIl1]; exact hB9, hB11, hRL2, hRL0, hE⟩
                      rintro ⟨aw4, cw4, a14, c14, a34, c34, vs4⟩ wt25 ⟨hT, hB9, hB11, hRL2, hRL0, hE⟩
                      dsimp only [List.cons_append, List.nil_append]
                      dsimp only at hT hB9
                      refine blockE_n ?_
                      refine thenE_n ?_
                      refine W_region ?_
                      refine WL_q rfl (ev_add rfl rfl (by omega)) ?_
                      refine WL_q rfl (ev_move rfl) ?_
                      refine WL_nil ?_
                      refine thenE_n ?_
                      have h9 : (uK A.ends i z (uN A.ends v d i) (k + 1)).length ≤ 40 := by omega
                      exact ⟨(k + 1, aw4, cw4, vs4, a14, c14, a34, c34), (Subs.c rfl (Subs.c rfl (Subs.c rfl (Subs.c rfl (Subs.c rfl (Subs.c rfl (Subs.c rfl (Subs.c rfl Subs.n)))))))), (Subs.c rfl (Subs.c (lkI rfl (by omega)) Subs.n)), ⟨hRL2, ⟨by omega, h9, hT, hB9⟩⟩, by first | omega | (dsimp only; omega)⟩
              · have hp77 := of_decide_eq_false hg77
                refine W_exit ?_
                refine thenE_x ?_
                refine thenE_x ?_
                refine blockE_hit ?_
                refine blockE_n ?_
                refine thenE_n ?_
                refine W_region ?_
                refine WL_q rfl (ev_move rfl) ?_
                refine WL_q rfl (ev_add rfl rfl (by omega)) ?_
                refine WL_q rfl (ev_assign rfl) ?_
                refine WL_nil ?_
                refine thenE_n ?_
                have hk9 : k = (rowE A.ends z.x).length := by rw [rowE_at hl73]; omega
                have e9 : uN A.ends v d (i + 1) = (uK A.ends i z (uN A.ends v d i) k) := by rw [hk9]; exact uN_some hz hp68
                have hkl9 : (uN A.ends v d i).length ≤ (uK A.ends i z (uN A.ends v d i) k).length := (uK_le (ends := A.ends) (i := i) (w := z) (W := (uN A.ends v d i)) (Nat.zero_le k)).length_le
                exact ⟨(i + 1, aw2, cw2, vs2, a12, c12, a32, c32), (Subs.c rfl (Subs.c rfl (Subs.c rfl (Subs.c rfl Subs.n)))), (Subs.c (lkS rfl (by rw [e9])) (Subs.c (lkI rfl (by omega)) Subs.n)), ⟨hRL0, ⟨by rw [e9]; omega, by rw [e9]; omega, by rw [e9]; exact hT.re ⟨by omega, by omega⟩, by rw [e9]; exact hB9⟩⟩, by first | omega | (dsimp only; omega)⟩
          · have hp58 := of_decide_eq_false hg58
            refine W_exit ?_
            refine thenE_x ?_
            refine thenE_x ?_
            refine blockE_hit ?_
            refine thenE_n ?_
            refine W_seq ?_
            refine W_region ?_
            have hl9 : (uN A.ends v d i).length ≤ i := by omega
            have e9 := uN_done hl9 (by omega)
            have hUO : UOk A v d := ⟨⟨hkA, hp23⟩, hp28, by rw [e9]; omega⟩
            have hN := hT.net.to (show _ = unfN A v d by unfold unfN; rw [e9])
            have hNi := hN.is
            refine WL_q rfl (ev_loads st31 sz31 rfl (cellsB hB9) rfl) ?_
            refine WL_m rfl (ev_call rfl (network_len _ _ _ _ _ _ (unfN A v d) _ (by simp only [unfN, e9]) rfl (by simp only [unfN, e9]) hNi (by omega) (NOk.tot (unfN_ok hUO)))) ?_
            rintro _ w152 ⟨h152, U152, q152, rfl, hq152, hE152⟩
            have hz152 := hE152.size
            replace hE := hE.trans hE152
            replace hA := hA.ext hE152
            replace hB3 := hB3.ext hE152
            replace hB6 := hB6.ext hE152
            replace hT := hT.ext hE152
            replace hB9 := hB9.ext hE152
            replace hN := hN.ext hE152
            replace hNi := hNi.ext hE152
            refine WL_q rfl (ev_extract rfl rfl) ?_
            refine WL_q rfl (ev_extract rfl rfl) ?_
            refine WL_s (ev_stores sz31 rfl rfl rfl (by simp [Value.oneCell']) hB6 (by simp)) ?_
            rintro _ w27_4 hS27_4
            have hz27_4 := hS27_4.size
            replace hE := hE.sto hS27_4 (by omega)
            replace hA := hA.sto hS27_4 (by omega)
            replace hB3 := hB3.sto hS27_4 (by omega)
            replace hT := hT.sto hS27_4 (by omega)
            replace hB9 := hB9.sto hS27_4 (by omega)
            replace hN := hN.sto hS27_4 (by omega)
            replace hNi := hNi.sto hS27_4 (by omega)
            replace hB6 : Blk w27_4 _ _ [_, _, _] := hS27_4.blk
            refine WL_q rfl (ev_assign rfl) ?_
            refine WL_nil ?_
            refine thenE_n ?_
            refine W_ret ?_
            refine retc2 rfl rfl st31 sz31 (cellsB hB6) rfl rfl ?_
            first | (exact ⟨⟨none, 0, none, 0, none, 0⟩, ⟨[], [], []⟩, _, rfl, .no (fun h => hp18 h.1.1), OwnNet.nil, by decide, hE⟩) | (exact ⟨⟨none, 0, none, 0, none, 0⟩, ⟨[], [], []⟩, _, rfl, .no (fun h => hp23 h.1.2), OwnNet.nil, by decide, hE⟩) | (exact ⟨⟨none, 0, none, 0, none, 0⟩, ⟨[], [], []⟩, _, rfl, .no (fun h => hp28 h.2.1), OwnNet.nil, by decide, hE⟩) | (exact ⟨⟨none, 0, none, 0, none, 0⟩, ⟨[], [], []⟩, _, rfl, .no (fun h => absurd h.2.2 (Nat.not_le.2 (uK_big hz (by omega) hlk2 hp84 (by omega) (by omega)))), OwnNet.nil, by decide, hE⟩) | (exact hq152.elim (fun ⟨e1, h1, e2, e3⟩ => (by subst e1 e2 e3; exact ⟨_, unfN A v d, _, rfl, .yes hUO rfl, OwnNet.up ⟨_, _, hN⟩ (by omega) (by omega), NOk.tot (unfN_ok hUO), hE⟩)) (fun ⟨e1, h1, e2, e3⟩ => absurd (unfN_ok hUO) h1))

end Go.Proofs.Ytladejfcplpnaaa
