/- Contracts of the reference's ViewText. -/
import Derived.Test.YticlopepmnlkmaaVtx
import Derived.Test.YticlopepmnlkmaaMtx2
import Derived.Test.YticlopepmnlkmaaStd
namespace Go.Proofs.Yticlopepmnlkmaa
open Go Go.RowKit

set_option maxRecDepth 100000 in
theorem viDepth_spec (t : Int) (w : World) :
    Fn Try.prog 12 #[VI t] w (fun v w' => v = VB (inR t 0 80) ∧ w = w') := by
  refine Fn_of Try.func12 rfl rfl (by kernel_rfl) rfl ?_
  refine W_seq ?_
  refine W_region ?_
  refine WL_q rfl (ev_assign rfl) ?_
  refine WL_nil ?_
  refine thenE_n ?_
  refine W_seq ?_
  refine W_region ?_
  refine WL_q rfl (ev_move rfl) ?_
  refine WL_m rfl (ev_call rfl (l1In_spec _ _ _ _)) ?_
  rintro _ _ ⟨rfl, rfl⟩
  refine WL_q rfl (ev_assign rfl) ?_
  refine WL_nil ?_
  refine thenE_n ?_
  refine W_ret ?_
  refine ret1 rfl rfl ?_
  exact ⟨rfl, rfl⟩

set_option maxRecDepth 100000 in
theorem isDepth_spec (t : Int) (w : World) :
    Fn Try.prog 18 #[VI t] w (fun v w' => v = VB (inR t 0 80) ∧ w = w') := by
  refine Fn_of Try.func18 rfl rfl (by kernel_rfl) rfl ?_
  refine W_seq ?_
  refine W_region ?_
  refine WL_q rfl (ev_assign rfl) ?_
  refine WL_nil ?_
  refine thenE_n ?_
  refine W_seq ?_
  refine W_region ?_
  refine WL_q rfl (ev_move rfl) ?_
  refine WL_m rfl (ev_call rfl (within_spec _ _ _ _)) ?_
  rintro _ _ ⟨rfl, rfl⟩
  refine WL_q rfl (ev_assign rfl) ?_
  refine WL_nil ?_
  refine thenE_n ?_
  refine W_ret ?_
  refine ret1 rfl rfl ?_
  exact ⟨rfl, rfl⟩

theorem hasNode_in {A : Net} {v : Int} : inR v 0 ((A.ends.length : Int) - 1) = true ↔ HasNode A v := by
  rw [inR_true]; exact ⟨fun h => ⟨h.1, by omega⟩, fun h => ⟨h.1, by have := h.2; have := h.1; omega⟩⟩
def NN (A : Net) (v : Int) : Prop := NOk A ∧ HasNode A v
theorem NOk.six {n : Net} (h : NOk n) : ∀ r ∈ n.ends, r.length ≤ 6 := by
  intro r hr
  obtain ⟨v, hv, rfl⟩ := List.mem_iff_getElem.1 hr
  have := (h.rows v hv).1; omega
theorem NOk.end10 {n : Net} (h : NOk n) {v k : Nat} (hv : v < n.ends.length) (hk : k < n.ends[v].length) : 0 ≤ n.ends[v][k].1 ∧ n.ends[v][k].1.toNat < n.ends.length ∧ 0 ≤ n.ends[v][k].2 ∧ n.ends[v][k].2 < 10 := by
  obtain ⟨h1, h2, h3, h4, h5⟩ := (h.rows v hv).2 k hk
  have h6 := h.six _ (List.getElem_mem h2)
  exact ⟨h1, h2, h3, by omega⟩
theorem NOk.kids {n : Net} (h : NOk n) : ∀ v, v < n.ends.length → ∀ k, k < (rowV n v).length → ((rowV n v).getD k (0, 0)).1.toNat < n.ends.length := by
  intro v hv k hk
  have e : rowV n v = n.ends[v] := getD_eq hv
  rw [e] at hk ⊢
  rw [getD_eq hk]
  exact (h.end10 hv hk).2.1
theorem rowV_at {A : Net} {v : Nat} (h : v < A.ends.length) : rowV A v = A.ends[v] := getD_eq h
theorem head_eq {A : Net} {v : Nat} (hA : NOk A) (hv : v < A.ends.length) (hi : v < A.inputs.length) : (Lib.decDigits ((A.ends[v].length : Int)).toNat ++ [46]) ++ Lib.decDigits A.inputs[v].toNat = headV A v := by
  have h6 := hA.six _ (List.getElem_mem hv)
  have h9 := allR_at hA.inputs hi
  rw [dec_dig (by omega), dec_dig (by omega)]
  unfold headV
  rw [rowV_at hv, getD_eq hi]
  rfl
/-- Strings that can be read. -/
def WS (lo hi : Nat) (w : World) (a : Option Addr) (c : Nat) (ls : List (List UInt8)) : Prop := Arr lo hi w 1 a c (ls.map fun l => [vS l])
section
variable {lo hi c i : Nat} {w w' : World} {a : Option Addr} {ls : List (List UInt8)}
theorem WS.isSome (h : WS lo hi w a c ls) (hn : 0 < ls.length) : a = some ⟨blkOf a, offOf a, none⟩ := Arr.isSome h (by decide) (by simpa using hn)
theorem WS.cell (h : WS lo hi w a c ls) (hi' : i < ls.length) : w.cell? ⟨blkOf a, offOf a + i * 1, none⟩ = some (.string (bs ls[i])) :=
  Arr.cell h (i := i) (j := 0) (r := [vS ls[i]]) (by simp [hi']) rfl
theorem Own.ws {E : TypeId} {n : Nat} (h : Own lo w E 1 a n c (ls.map vS)) : WS lo w.heap.size w a c ls := by
  have h1 := h.cap
  refine ⟨by simp at h1 ⊢; omega, fun r hr => by obtain ⟨q, _, rfl⟩ := List.mem_map.1 hr; rfl, ?_⟩
  have e : (ls.map fun l => [vS l]).flatten = ls.map vS := by
    clear h h1
    induction ls with
    | nil => rfl
    | cons x r ih => simp [ih]
  rw [e]; exact h.sat
end
/-- The reference's text of a node, before it is looked at how long it is. -/
def finS (A : Net) (ts : List (List UInt8)) (v : Nat) : List UInt8 := if (rowV A v).length = 0 then headV A v else headV A v ++ (brS ts (rowV A v) (rowV A v).length ++ [41])
section
variable {A : Net} {ts : List (List UInt8)} {es : List (Int × Int)} {u v t : Nat} {X : List UInt8}
theorem brS_zero : brS ts es 0 = [] := rfl
theorem brS_step (hu : u < es.length) (hp : 0 ≤ es[u].2 ∧ es[u].2 < 10) (hi : es[u].1.toNat < ts.length) {c : UInt8} (hc : c = if u = 0 then 40 else 44) : ((X ++ brS ts es u) ++ [c]) ++ ((Lib.decDigits es[u].2.toNat ++ [58]) ++ ts[es[u].1.toNat]) = X ++ brS ts es (u + 1) := by
  subst hc
  unfold brS
  simp only [brV]
  rw [getD_eq hu, dec_dig hp, getD_eq hi]
  simp
theorem lng_t (h : lngV ts es u = true) : true = lngV ts es (u + 1) := by simp [lngV, h]
theorem lng_f (hu : u < es.length) (hi : es[u].1.toNat < ts.length) (h : lngV ts es u = false) : decide (ts[es[u].1.toNat] = []) = lngV ts es (u + 1) := by simp only [lngV, h, getD_eq hu, getD_eq hi, Bool.false_or]
theorem fin_yes (hv : v < A.ends.length) (hn : 0 < A.ends[v].length) (hu : u = A.ends[v].length) : (headV A v ++ brS ts A.ends[v] u) ++ [41] = finS A ts v := by
  subst hu
  unfold finS
  rw [rowV_at hv, if_neg (by omega), List.append_assoc]
theorem fin_no (hv : v < A.ends.length) (hn : ¬ 0 < A.ends[v].length) (hu : u = A.ends[v].length) : headV A v ++ brS ts A.ends[v] u = finS A ts v := by
  have e : u = 0 := by omega
  subst e
  unfold finS
  rw [rowV_at hv, if_pos (by omega), brS_zero, List.append_nil]
theorem txS_fin (hA : NOk A) (hv : v < A.ends.length) : (if lngV (txS A t) (rowV A v) (rowV A v).length = true ∨ 4000 < (finS A (txS A t) v).length then [] else finS A (txS A t) v) = shV (txtV A (t + 1) v) := txS_step (hA.kids v hv) rfl
theorem txS_1 (hA : NOk A) (hv : v < A.ends.length) (hu : u = A.ends[v].length) (h : lngV (txS A t) A.ends[v] u = true) : [] = shV (txtV A (t + 1) v) := by
  rw [← txS_fin hA hv, if_pos]; left; rw [rowV_at hv, ← hu]; exact h
theorem txS_2 (hA : NOk A) (hv : v < A.ends.length) (h : 4000 < (finS A (txS A t) v).length) : [] = shV (txtV A (t + 1) v) := by
  rw [← txS_fin hA hv, if_pos]; right; exact h
theorem txS_3 (hA : NOk A) (hv : v < A.ends.length) (hu : u = A.ends[v].length) (h : lngV (txS A t) A.ends[v] u = false) (h2 : ¬ 4000 < (finS A (txS A t) v).length) : finS A (txS A t) v = shV (txtV A (t + 1) v) := by
  rw [← txS_fin hA hv, if_neg]
  intro h3
  rcases h3 with h3 | h3
  · rw [rowV_at hv, ← hu, h] at h3; cases h3
  · exact h2 h3
theorem txS_snoc (hv : v < A.ends.length) {s : List UInt8} (hs : s = shV (txtV A t v)) : (txS A t).take v ++ [s] = (txS A t).take (v + 1) := by
  have h : v < (txS A t).length := by rw [txS_len]; exact hv
  rw [List.take_succ_eq_append_getElem h, txS_get, hs]
theorem txS_take : ((txS A t).take A.ends.length) = txS A t := by rw [← txS_len (A := A) (t := t), List.take_length]
theorem head_sh : headV A v = shV (txtV A 0 v) := (shV_eq (show (headV A v).length ≤ 4000 by simp [headV])).symm
theorem fin_len (h6 : A.ends[v]?.getD [] = es) (hd : es.length ≤ 6) : (finS A (txS A t) v).length ≤ 30000 := by
  have e : rowV A v = es := h6
  unfold finS
  rw [e]
  have := brS_len (ts := txS A t) (es := es) (k := es.length) txS_short
  split
  · simp [headV]
  · simp only [List.length_append, headV, List.length_cons, List.length_nil]; omega
end

set_option maxRecDepth 100000 in
theorem neNode_spec {loA hiA : Nat} (nA : NA) (A : Net) (v : Int) (w : World) (hA : IsNet loA hiA w nA A) (hhiA : hiA ≤ w.heap.size) (hnA : totN A ≤ 1048576) :
    Fn Try.prog 11 #[netV nA A, VI v] w (fun x w' => ∃ b, x = VB b ∧ (b = true ↔ NN A v) ∧ Ext w w') := by
  have hqA := totL_len A.ends
  have hmA : totL A.ends + A.ids.length + A.inputs.length ≤ 1048576 := hnA
  have hE := Ext.refl w
  refine Fn_of Try.func11 rfl rfl (by kernel_rfl) rfl ?_
  refine W_seq ?_
  refine W_region ?_
  refine WL_m rfl (ev_box rfl) ?_
  rintro _ w2 ⟨rfl, hN2⟩
  have hz2 := hN2.size
  replace hE := hE.trans hN2.ext
  replace hA := hA.ext hN2.ext
  have hB2 : Blk w2 _ _ [_, _, _] := hN2.blk
  refine WL_q rfl (ev_assign rfl) ?_
  refine WL_nil ?_
  refine thenE_n ?_
  refine W_seq ?_
  refine W_region ?_
  refine WL_q rfl (ev_loads st31 sz31 rfl (cellsB hB2) rfl) ?_
  refine WL_m rfl (ev_call rfl (neGood_spec _ A _ hA (by omega) (by omega))) ?_
  rintro _ w6 ⟨b6, rfl, hb6, hE6⟩
  have hz6 := hE6.size
  replace hE := hE.trans hE6
  replace hA := hA.ext hE6
  replace hB2 := hB2.ext hE6
  refine WL_q rfl (ev_move rfl) ?_
  refine WL_splitv (t := 7) rfl (fun hg6 => ?_) (fun hg6 => ?_)
  · have hp6 := hb6.1 hg6
    refine WL_qg rfl rfl hg6 rfl (ev_move rfl) ?_
    refine WL_qg rfl rfl hg6 rfl (ev_fieldAddr fo31_0 rfl) ?_
    refine WL_qg rfl rfl hg6 rfl (ev_load one29 rfl (hB2.cell rfl)) ?_
    refine WL_qg rfl rfl hg6 rfl (ev_len Try.underlying29 rfl) ?_
    refine WL_qg rfl rfl hg6 rfl (ev_sub rfl rfl (by omega)) ?_
    refine WL_mg rfl rfl hg6 rfl (ev_call rfl (l1In_spec _ _ _ _)) ?_
    rintro _ _ ⟨rfl, rfl⟩
    refine WL_q rfl (ev_pick_t rfl hg6 rfl) ?_
    refine WL_q rfl (ev_assign rfl) ?_
    refine WL_nil ?_
    refine thenE_n ?_
    refine W_ret ?_
    refine ret1 rfl rfl ?_
    first | (exact ⟨_, rfl, ⟨fun h => ⟨hp6, hasNode_in.1 h⟩, fun h => hasNode_in.2 h.2⟩, hE⟩) | (exact ⟨_, rfl, ffI fun h => hp6 h.1, hE⟩)
  · have hp6 := ttN hb6 hg6
    refine WL_no rfl rfl hg6 rfl ?_
    refine WL_no rfl rfl hg6 rfl ?_
    refine WL_no rfl rfl hg6 rfl ?_
    refine WL_no rfl rfl hg6 rfl ?_
    refine WL_no rfl rfl hg6 rfl ?_
    refine WL_no rfl rfl hg6 rfl ?_
    refine WL_q rfl (ev_pick_f rfl hg6 rfl) ?_
    refine WL_q rfl (ev_assign rfl) ?_
    refine WL_nil ?_
    refine thenE_n ?_
    refine W_ret ?_
    refine ret1 rfl rfl ?_
    first | (exact ⟨_, rfl, ⟨fun h => ⟨hp6, hasNode_in.1 h⟩, fun h => hasNode_in.2 h.2⟩, hE⟩) | (exact ⟨_, rfl, ffI fun h => hp6 h.1, hE⟩)

set_option maxRecDepth 100000 in
theorem viHead_spec {loA hiA : Nat} (nA : NA) (A : Net) (v : Int) (w : World) (hA : IsNet loA hiA w nA A) (hhiA : hiA ≤ w.heap.size) (hnA : totN A ≤ 1048576) (hkA : NOk A) (hv : 0 ≤ v ∧ v.toNat < A.ends.length) :
    Fn Try.prog 29 #[netV nA A, VI v] w (fun x w' => x = .string (bs (headV A v.toNat)) ∧ Ext w w') := by
  have hqA := totL_len A.ends
  have hmA : totL A.ends + A.ids.length + A.inputs.length ≤ 1048576 := hnA
  have hndA := hkA.nodes
  have hinA := hkA.inLen
  have h6 := hkA.six
  have hv2 := hv.2
  have h6v := h6 _ (List.getElem_mem hv2)
  have h9v := allR_at hkA.inputs (show v.toNat < A.inputs.length by omega)
  have hdl := dec_len (n := ((A.ends[v.toNat].length : Int)).toNat) (by omega)
  have hdl2 := dec_len (n := (A.inputs[v.toNat]'(by omega)).toNat) (by omega)
  have hE := Ext.refl w
  refine Fn_of Try.func29 rfl rfl (by kernel_rfl) rfl ?_
  refine W_seq ?_
  refine W_region ?_
  refine WL_m rfl (ev_box rfl) ?_
  rintro _ w2 ⟨rfl, hN2⟩
  have hz2 := hN2.size
  replace hE := hE.trans hN2.ext
  replace hA := hA.ext hN2.ext
  have hB2 : Blk w2 _ _ [_, _, _] := hN2.blk
  refine WL_q rfl (ev_assign rfl) ?_
  refine WL_nil ?_
  refine thenE_n ?_
  refine W_seq ?_
  refine W_drawE [(0, true), (1, true), (2, true), (3, true), (4, true), (5, true), (8, true), (9, true), (10, true), (11, true), (12, true), (6, false), (7, true), (13, false), (14, true), (15, true)] mixed (by kernel_rfl) rfl (by kernel_rfl) ?_
  intro wd1 hEd1 hzd1
  replace hE := hE.trans hEd1
  replace hA := hA.ext hEd1
  replace hB2 := hB2.ext hEd1
  have hDd1 := Ext.refl wd1
  refine PW_q rfl rfl (fun wq hq => ev_fieldAddr fo31_0 rfl) ?_
  refine PW_q rfl rfl (fun wq hq => ev_load one29 rfl (hq.cell (hB2.cell rfl))) ?_
  refine PW_q rfl rfl (fun wq hq => ev_move rfl) ?_
  have hl8 : v.toNat < A.ends.length := by omega
  have ht8 := totL_le hl8
  obtain ⟨a8, c8, hc8, hr8⟩ := hA.ends.row hl8
  refine PW_q rfl rfl (fun wq hq => ev_indexAddr Try.underlying29 sz46 rfl rfl (hA.ends.isSome (by omega)) (by omega) (by omega)) ?_
  refine PW_q rfl rfl (fun wq hq => ev_load one46 rfl (hq.cell (hc8))) ?_
  refine PW_q rfl rfl (fun wq hq => ev_len Try.underlying46 rfl) ?_
  refine PW_q rfl rfl (fun wq hq => ev_fieldAddr fo31_2 rfl) ?_
  refine PW_q rfl rfl (fun wq hq => ev_load one23 rfl (hq.cell (hB2.cell rfl))) ?_
  refine PW_q rfl rfl (fun wq hq => ev_move rfl) ?_
  refine PW_q rfl rfl (fun wq hq => ev_indexAddr Try.underlying23 sz3 rfl rfl (hA.inputs.isSome (by omega)) (by omega) (by omega)) ?_
  have hc17 := hA.inputs.cell (i := v.toNat) (by omega)
  refine PW_q rfl rfl (fun wq hq => ev_load one3 rfl (hq.cell (hc17))) ?_
  refine PW_m rfl rfl (ev_call rfl (l1Num_1 _ _ (by omega))) ?_
  rintro _ w11 ⟨rfl, hE11⟩
  have hz11 := hE11.size
  replace hE := hE.trans hE11
  replace hDd1 := hDd1.trans hE11
  refine ⟨hDd1, ?_⟩
  refine PW_q rfl rfl (fun wq hq => ev_addS (b := [46]) rfl rfl (by (try simp only [List.length_append, List.length_cons, List.length_nil]); omega)) ?_
  have hA_13 := hA.ext hDd1
  have hB2_13 := hB2.ext hDd1
  have hr8_13 := hr8.ext hDd1
  refine PW_m rfl rfl (ev_call rfl (l1Num_1 _ _ (by omega))) ?_
  rintro _ w18 ⟨rfl, hE18⟩
  have hz18 := hE18.size
  replace hE := hE.trans hE18
  replace hDd1 := hDd1.trans hE18
  refine ⟨hDd1, ?_⟩
  refine PW_q rfl rfl (fun wq hq => ev_addS rfl rfl (by (try simp only [List.length_append, List.length_cons, List.length_nil]); omega)) ?_
  refine PW_q rfl rfl (fun wq hq => ev_assign rfl) ?_
  replace hA := hA.ext hDd1
  replace hB2 := hB2.ext hDd1
  replace hr8 := hr8.ext hDd1
  refine PW_nil ?_
  refine thenE_n ?_
  refine W_ret ?_
  refine ret1 rfl rfl ?_
  exact ⟨by rw [head_eq hkA hv2 (by omega)], hE⟩

set_option maxHeartbeats 1000000 in
set_option maxRecDepth 100000 in
theorem viTexts_spec {loA hiA : Nat} (nA : NA) (A : Net) (d : Int) (w : World) (hA : IsNet loA hiA w nA A) (hhiA : hiA ≤ w.heap.size) (hnA : totN A ≤ 1048576) (hkA : NOk A) (hd : 0 ≤ d ∧ d ≤ 80) :
    Fn Try.prog 13 #[netV nA A, VI d] w (fun x w' => ∃ a' c', x = .slice a' A.ends.length c' ∧ Own w.heap.size w' 9 1 a' A.ends.length c' ((txS A d.toNat).map vS) ∧ Ext w w') := by
  have hqA := totL_len A.ends
  have hmA : totL A.ends + A.ids.length + A.inputs.length ≤ 1048576 := hnA
  have hndA := hkA.nodes
  have hinA := hkA.inLen
  have h6 := hkA.six
  have hd1 := hd.1
  have hE := Ext.refl w
  refine Fn_of Try.func13 rfl rfl (by kernel_rfl) rfl ?_
  refine W_seq ?_
  refine W_region ?_
  refine WL_m rfl (ev_box rfl) ?_
  rintro _ w2 ⟨rfl, hN2⟩
  have hz2 := hN2.size
  replace hE := hE.trans hN2.ext
  replace hA := hA.ext hN2.ext
  have hB2 : Blk w2 _ _ [_, _, _] := hN2.blk
  refine WL_q rfl (ev_assign rfl) ?_
  refine WL_nil ?_
  refine thenE_n ?_
  refine W_seq ?_
  refine W_region ?_
  refine WL_q rfl (ev_assign rfl) ?_
  refine WL_nil ?_
  refine thenE_n ?_
  refine W_seq ?_
  refine W_seq ?_
  refine W_region ?_
  refine WL_q rfl (ev_fieldAddr fo31_0 rfl) ?_
  refine WL_q rfl (ev_load one29 rfl (hB2.cell rfl)) ?_
  refine WL_q rfl (ev_len Try.underlying29 rfl) ?_
  refine WL_q rfl (ev_move rfl) ?_
  refine WL_nil ?_
  refine thenE_n ?_
  refine W_block ?_
  refine W_loopC (G := Nat × Option Addr × Nat) [(1, _), (2, _), (16, _)] ((Subs.c rfl (Subs.c rfl (Subs.c rfl Subs.n)))) (fun ⟨k, a, c⟩ => [(5, .slice a k c), (17, VI (k : Int))]) (fun ⟨k, a, c⟩ w' => Lo (w2.heap.size) w2 w' ∧ k ≤ A.ends.length ∧ OwnH w2.heap.size w'.heap.size 0 0 w' 9 1 a k c (((txS A 0).take k).map vS)) (fun g => A.ends.length - g.1) (0, none, 0) ((Subs.c rfl (Subs.c (lkI rfl (by omega)) Subs.n))) (⟨Lo.refl (by omega), ⟨Nat.zero_le _, by rw [List.take_zero]; exact OwnH.nil⟩⟩) ?_
  rintro ⟨k, a, c⟩ wL0 ⟨hRL0, hk', hO⟩
  have hzL0 := hRL0.size
  replace hA := hA.lo hRL0 (by omega)
  replace hB2 := hB2.lo hRL0 (by omega)
  replace hE := hE.lo hRL0 (by omega)
  refine W_seq ?_
  refine W_region ?_
  refine WL_q rfl (ev_lss rfl rfl) ?_
  refine WL_nil ?_
  refine thenE_n ?_
  refine W_seq ?_
  refine W_cond rfl (fun hg18 => ?_) (fun hg18 => ?_)
  · have hp18 := of_decide_eq_true hg18
    refine W_skip ?_
    refine thenE_n ?_
    refine W_seq ?_
    refine W_block ?_
    refine W_seq ?_
    refine W_region ?_
    refine WL_q rfl (ev_move rfl) ?_
    refine WL_q rfl (ev_assign rfl) ?_
    refine WL_nil ?_
    refine thenE_n ?_
    refine W_region ?_
    refine WL_q rfl (ev_move rfl) ?_
    refine WL_q rfl (ev_loads st31 sz31 rfl (cellsB hB2) rfl) ?_
    refine WL_q rfl (ev_move rfl) ?_
    refine WL_m rfl (ev_call rfl (viHead_spec _ A _ _ hA (by omega) (by omega) hkA (by omega))) ?_
    rintro _ w23 ⟨rfl, hE23⟩
    have hz23 := hE23.size
    replace hE := hE.trans hE23
    replace hRL0 := hRL0.trans hE23
    replace hA := hA.ext hE23
    replace hB2 := hB2.ext hE23
    replace hO := hO.ext hE23
    refine WL_m rfl (ev_lit1 Try.underlying39 el9 (by decide) (by decide) rfl rfl) ?_
    rintro _ w24 ⟨rfl, hN24⟩
    have hz24 := hN24.size
    replace hE := hE.trans hN24.ext
    replace hRL0 := hRL0.trans hN24.ext
    replace hA := hA.ext hN24.ext
    replace hB2 := hB2.ext hN24.ext
    replace hO := hO.ext hN24.ext
    have hB24 := hN24.blk
    refine WL_m rfl (ev_appendT Try.underlying39 el9 rfl (by decide) rfl rfl hO (SAt.of_blk (cs := [_]) (ds := []) hB24) rfl (by simp [Value.oneCell']) (by omega) (by unfold maxLen; omega) (by omega)) ?_
    rintro _ w25 ⟨a25, c25, rfl, hO25, hK25, hQ25⟩
    have hz25 := hK25.size
    replace hE := hE.rg hK25 (by omega)
    replace hRL0 := hRL0.rg hK25 (by omega)
    replace hA := hA.rg hK25 (by omega)
    replace hB2 := hB2.rg hK25 (by omega)
    replace hO := hO25
    refine WL_q rfl (ev_assign rfl) ?_
    refine WL_nil ?_
    refine blockE_n ?_
    refine thenE_n ?_
    refine W_region ?_
    refine WL_q rfl (ev_add rfl rfl (by omega)) ?_
    refine WL_q rfl (ev_move rfl) ?_
    refine WL_nil ?_
    refine thenE_n ?_
    exact ⟨(k + 1, a25, c25), (Subs.c rfl (Subs.c rfl (Subs.c rfl Subs.n))), (Subs.c rfl (Subs.c (lkI rfl (by omega)) Subs.n)), ⟨hRL0, ⟨by omega, by rw [← txS_snoc (t := 0) (show k < A.ends.length by omega) head_sh, List.map_append]; exact hO⟩⟩, by first | omega | (dsimp only; omega)⟩
  · have hp18 := of_decide_eq_false hg18
    refine W_exit ?_
    refine thenE_x ?_
    refine thenE_x ?_
    refine blockE_hit ?_
    refine thenE_n ?_
    refine W_seq ?_
    refine W_block ?_
    have hk9 : k = A.ends.length := by omega
    rw [hk9, txS_take] at hO
    refine W_loopC (G := Nat × Option Addr × Nat) [(2, _)] ((Subs.c rfl Subs.n)) (fun ⟨j, a2, c2⟩ => [(1, VI (d - (j : Int))), (5, .slice a2 A.ends.length c2)]) (fun ⟨j, a2, c2⟩ w' => Lo (w2.heap.size) wL0 w' ∧ (j : Int) ≤ d ∧ OwnH w2.heap.size w'.heap.size 0 0 w' 9 1 a2 A.ends.length c2 ((txS A j).map vS)) (fun g => d.toNat - g.1) (0, a, c) ((Subs.c (lkI rfl (by omega)) (Subs.c (lkS rfl (by omega)) Subs.n))) (⟨Lo.refl (by omega), ⟨by omega, hO⟩⟩) ?_
    rintro ⟨j, a2, c2⟩ wL2 ⟨hRL2, hj', hO⟩
    have hzL2 := hRL2.size
    replace hA := hA.lo hRL2 (by omega)
    replace hB2 := hB2.lo hRL2 (by omega)
    replace hE := hE.lo hRL2 (by omega)
    refine W_seq ?_
    refine W_seq ?_
    refine W_region ?_
    refine WL_q rfl (ev_move rfl) ?_
    refine WL_q rfl (ev_gtr rfl rfl) ?_
    refine WL_nil ?_
    refine thenE_n ?_
    refine W_cond rfl (fun hg28 => ?_) (fun hg28 => ?_)
    · have hp28 := of_decide_eq_true hg28
      refine W_skip ?_
      refine thenE_n ?_
      refine W_seq ?_
      refine W_block ?_
      refine W_seq ?_
      refine W_region ?_
      refine WL_q rfl (ev_assign rfl) ?_
      refine WL_nil ?_
      refine thenE_n ?_
      refine W_seq ?_
      refine W_seq ?_
      refine W_region ?_
      refine WL_q rfl (ev_fieldAddr fo31_0 rfl) ?_
      refine WL_q rfl (ev_load one29 rfl (hB2.cell rfl)) ?_
      refine WL_q rfl (ev_len Try.underlying29 rfl) ?_
      refine WL_q rfl (ev_move rfl) ?_
      refine WL_nil ?_
      refine thenE_n ?_
      refine W_block ?_
      have hO2 := hO
      refine W_loopC (G := Nat × Option Addr × Nat) [(1, _), (2, _), (5, _), (32, _), (33, _)] ((Subs.c rfl (Subs.c rfl (Subs.c rfl (Subs.c rfl (Subs.c rfl Subs.n)))))) (fun ⟨i, a3, c3⟩ => [(7, .slice a3 i c3), (34, VI (i : Int))]) (fun ⟨i, a3, c3⟩ w' => Lo (wL2.heap.size) wL2 w' ∧ i ≤ A.ends.length ∧ OwnH wL2.heap.size w'.heap.size 0 0 w' 9 1 a3 i c3 (((txS A (j + 1)).take i).map vS)) (fun g => A.ends.length - g.1) (0, none, 0) ((Subs.c rfl (Subs.c (lkI rfl (by omega)) Subs.n))) (⟨Lo.refl (by omega), ⟨Nat.zero_le _, by rw [List.take_zero]; exact OwnH.nil⟩⟩) ?_
      rintro ⟨i, a3, c3⟩ wL4 ⟨hRL4, hi', hO7⟩
      have hzL4 := hRL4.size
      replace hA := hA.lo hRL4 (by omega)
      replace hB2 := hB2.lo hRL4 (by omega)
      replace hO := hO.lo hRL4 (by omega)
      replace hE := hE.lo hRL4 (by omega)
      replace hRL2 := hRL2.lo hRL4 (by omega)
      refine W_seq ?_
      refine W_region ?_
      refine WL_q rfl (ev_lss rfl rfl) ?_
      refine WL_nil ?_
      refine thenE_n ?_
      refine W_seq ?_
      refine W_cond rfl (fun hg35 => ?_) (fun hg35 => ?_)
      · have hp35 := of_decide_eq_true hg35
        refine W_skip ?_
        refine thenE_n ?_
        refine W_seq ?_
        refine W_block ?_
        refine W_seq ?_
        refine W_region ?_
        refine WL_q rfl (ev_move rfl) ?_
        have hilt : i < A.ends.length := by omega
        have h6i := h6 _ (List.getElem_mem hilt)
        have hWS := hO.1.ws
        have htl := txS_len (A := A) (t := j)
        have hl37 : i < A.ends.length := by omega
        have ht37 := totL_le hl37
        obtain ⟨a37, c37, hc37, hr37⟩ := hA.ends.row hl37
        refine WL_q rfl (ev_indexAddr Try.underlying29 sz46 rfl rfl (hA.ends.isSome (by omega)) (by omega) (by omega)) ?_
        refine WL_q rfl (ev_load one46 rfl (hc37)) ?_
        refine WL_q rfl (ev_assign rfl) ?_
        refine WL_q rfl (ev_assign rfl) ?_
        refine WL_nil ?_
        refine thenE_n ?_
        refine W_seq ?_
        refine W_region ?_
        refine WL_q rfl (ev_loads st31 sz31 rfl (cellsB hB2) rfl) ?_
        refine WL_q rfl (ev_move rfl) ?_
        refine WL_m rfl (ev_call rfl (viHead_spec _ A _ _ hA (by omega) (by omega) hkA (by omega))) ?_
        rintro _ w41 ⟨rfl, hE41⟩
        have hz41 := hE41.size
        replace hE := hE.trans hE41
        replace hRL2 := hRL2.trans hE41
        replace hRL4 := hRL4.trans hE41
        replace hA := hA.ext hE41
        replace hB2 := hB2.ext hE41
        replace hO := hO.ext hE41
        replace hO7 := hO7.ext hE41
        replace hr37 := hr37.ext hE41
        refine WL_q rfl (ev_assign rfl) ?_
        refine WL_q rfl (ev_assign rfl) ?_
        refine WL_nil ?_
        refine thenE_n ?_
        refine W_seq ?_
        refine W_seq ?_
        refine W_region ?_
        refine WL_q rfl (ev_move rfl) ?_
        refine WL_q rfl (ev_len Try.underlying46 rfl) ?_
        refine WL_q rfl (ev_move rfl) ?_
        refine WL_nil ?_
        refine thenE_n ?_
        refine W_block ?_
        refine W_loopC (G := Nat) [(1, _), (2, _), (5, _), (7, _), (9, _), (32, _), (33, _), (34, _), (42, _), (43, _)] ((Subs.c rfl (Subs.c rfl (Subs.c rfl (Subs.c rfl (Subs.c rfl (Subs.c rfl (Subs.c rfl (Subs.c rfl (Subs.c rfl (Subs.c rfl Subs.n))))))))))) (fun u => [(10, .string (bs (headV A i ++ brS (txS A j) A.ends[i] u))), (11, VB (lngV (txS A j) A.ends[i] u)), (44, VI (u : Int))]) (fun u w' => Ext w41 w' ∧ u ≤ A.ends[i].length) (fun u => A.ends[i].length - u) 0 ((Subs.c (lkV rfl (congrArg (fun l => Value.string (bs l)) (by rw [brS_zero, List.append_nil, Int.toNat_natCast]))) (Subs.c rfl (Subs.c (lkI rfl (by omega)) Subs.n)))) (⟨Ext.refl _, Nat.zero_le _⟩) ?_
        rintro u wL6 ⟨hRL6, hu'⟩
        have hzL6 := hRL6.size
        replace hE := hE.trans hRL6
        replace hRL2 := hRL2.trans hRL6
        replace hRL4 := hRL4.trans hRL6
        replace hA := hA.ext hRL6
        replace hB2 := hB2.ext hRL6
        replace hO := hO.ext hRL6
        replace hO7 := hO7.ext hRL6
        replace hr37 := hr37.ext hRL6
        have hbl := brS_len (ts := txS A j) (es := A.ends[i]) (k := u) txS_short
        have hhl : (headV A i).length = 3 := rfl
        have hWS := hO.1.ws
        refine W_seq ?_
        refine W_region ?_
        refine WL_q rfl (ev_lss rfl rfl) ?_
        refine WL_nil ?_
        refine thenE_n ?_
        refine W_seq ?_
        refine W_cond rfl (fun hg45 => ?_) (fun hg45 => ?_)
        · have hp45 := of_decide_eq_true hg45
          refine W_skip ?_
          refine thenE_n ?_
          refine W_seq ?_
          refine W_block ?_
          refine W_seq ?_
          refine W_region ?_
          refine WL_q rfl (ev_move rfl) ?_
          have hult : u < A.ends[i].length := by omega
          obtain ⟨he1, he2, he3, he4⟩ := hkA.end10 hilt hult
          have hep : 0 ≤ A.ends[i][u].2 ∧ A.ends[i][u].2 < 10 := ⟨he3, he4⟩
          have hei : A.ends[i][u].1.toNat < (txS A j).length := by omega
          have hdl := dec_len (n := A.ends[i][u].2.toNat) (by omega)
          have htx := txS_short _ (List.getElem_mem hei)
          refine WL_q rfl (ev_indexAddr Try.underlying46 sz61 rfl rfl (hr37.isSome (by omega)) (by omega) (by omega)) ?_
          refine WL_q rfl (ev_loads st61 sz61 rfl (hr37.cells (i := u) (by omega)) rfl) ?_
          refine WL_m rfl (ev_alloc zr61) ?_
          rintro _ w13 ⟨rfl, hN13⟩
          have hz13 := hN13.size
          replace hE := hE.trans hN13.ext
          replace hRL2 := hRL2.trans hN13.ext
          replace hRL4 := hRL4.trans hN13.ext
          replace hRL6 := hRL6.trans hN13.ext
          replace hA := hA.ext hN13.ext
          replace hB2 := hB2.ext hN13.ext
          replace hO := hO.ext hN13.ext
          replace hO7 := hO7.ext hN13.ext
          replace hr37 := hr37.ext hN13.ext
          have hB13 : Blk w13 _ _ [_, _] := hN13.blk
          refine WL_q rfl (ev_assign rfl) ?_
          refine WL_s (ev_stores sz61 rfl rfl rfl (by simp [Value.oneCell']) hB13 (by simp)) ?_
          rintro _ w16_5 hS16_5
          have hz16_5 := hS16_5.size
          replace hE := hE.sto hS16_5 (by omega)
          replace hRL2 := hRL2.sto hS16_5 (by omega)
          replace hRL4 := hRL4.sto hS16_5 (by omega)
          replace hRL6 := hRL6.sto hS16_5 (by omega)
          replace hA := hA.sto hS16_5 (by omega)
          replace hB2 := hB2.sto hS16_5 (by omega)
          replace hO := hO.sto hS16_5 (by omega)
          replace hO7 := hO7.sto hS16_5 (by omega)
          replace hr37 := hr37.sto hS16_5 (by omega)
          replace hB13 : Blk w16_5 _ _ [_, _] := hS16_5.blk
          refine WL_nil ?_
          refine thenE_n ?_
          refine W_seq ?_
          refine W_seq ?_
          refine W_region ?_
          refine WL_q rfl (ev_move rfl) ?_
          refine WL_q rfl (ev_eql rfl rfl) ?_
          refine WL_nil ?_
          refine thenE_n ?_
          refine W_cond rfl (fun hg50 => ?_) (fun hg50 => ?_)
          · have hp50 := of_decide_eq_true hg50
            refine W_region ?_
            refine WL_q rfl (ev_move rfl) ?_
            refine WL_q rfl (ev_addS (b := [40]) rfl rfl (by (try simp only [List.length_append, List.length_cons, List.length_nil]); omega)) ?_
            refine WL_q rfl (ev_assign rfl) ?_
            refine WL_nil ?_
            refine thenE_n ?_
            refine W_seq ?_
            refine W_drawE [(0, true), (1, true), (2, true), (5, true), (6, true), (7, true), (8, true), (9, true), (3, false), (4, true), (10, true), (11, true), (12, true)] mixed (by kernel_rfl) rfl (by kernel_rfl) ?_
            intro wd20 hEd20 hzd20
            replace hE := hE.trans hEd20
            replace hRL2 := hRL2.trans hEd20
            replace hRL4 := hRL4.trans hEd20
            replace hRL6 := hRL6.trans hEd20
            replace hA := hA.ext hEd20
            replace hB2 := hB2.ext hEd20
            replace hO := hO.ext hEd20
            replace hO7 := hO7.ext hEd20
            replace hr37 := hr37.ext hEd20
            replace hB13 := hB13.ext hEd20
            have hWS := hO.1.ws
            have hDd20 := Ext.refl wd20
            refine PW_q rfl rfl (fun wq hq => ev_move rfl) ?_
            refine PW_q rfl rfl (fun wq hq => ev_fieldAddr fo61_1 rfl) ?_
            refine PW_q rfl rfl (fun wq hq => ev_load one3 rfl (hq.cell (hB13.cell rfl))) ?_
            refine PW_q rfl rfl (fun wq hq => ev_move rfl) ?_
            refine PW_q rfl rfl (fun wq hq => ev_fieldAddr fo61_0 rfl) ?_
            refine PW_q rfl rfl (fun wq hq => ev_load one3 rfl (hq.cell (hB13.cell rfl))) ?_
            refine PW_q rfl rfl (fun wq hq => ev_indexAddr Try.underlying39 sz9 rfl rfl (hWS.isSome (by omega)) (by omega) (by omega)) ?_
            refine PW_q rfl rfl (fun wq hq => ev_load one9 rfl (hq.cell (hWS.cell hei))) ?_
            refine PW_m rfl rfl (ev_call rfl (l1Num_1 _ _ (by omega))) ?_
            rintro _ w58 ⟨rfl, hE58⟩
            have hz58 := hE58.size
            replace hE := hE.trans hE58
            replace hRL2 := hRL2.trans hE58
            replace hRL4 := hRL4.trans hE58
            replace hRL6 := hRL6.trans hE58
            replace hDd20 := hDd20.trans hE58
            refine ⟨hDd20, ?_⟩
            refine PW_q rfl rfl (fun wq hq => ev_addS (b := [58]) rfl rfl (by (try simp only [List.length_append, List.length_cons, List.length_nil]); omega)) ?_
            refine PW_q rfl rfl (fun wq hq => ev_addS rfl rfl (by (try simp only [List.length_append, List.length_cons, List.length_nil]); omega)) ?_
            refine PW_q rfl rfl (fun wq hq => ev_addS rfl rfl (by (try simp only [List.length_append, List.length_cons, List.length_nil]); omega)) ?_
            refine PW_q rfl rfl (fun wq hq => ev_assign rfl) ?_
            replace hA := hA.ext hDd20
            replace hB2 := hB2.ext hDd20
            replace hO := hO.ext hDd20
            replace hO7 := hO7.ext hDd20
            replace hr37 := hr37.ext hDd20
            replace hB13 := hB13.ext hDd20
            refine PW_nil ?_
            refine thenE_n ?_
            refine W_region ?_
            refine WL_q rfl (ev_move rfl) ?_
            refine WL_q rfl (ev_move rfl) ?_
            refine WL_splitv (t := 68) rfl (fun hg68 => ?_) (fun hg68 => ?_)
            · refine WL_no rfl rfl hg68 rfl ?_
              refine WL_no rfl rfl hg68 rfl ?_
              refine WL_no rfl rfl hg68 rfl ?_
              refine WL_no rfl rfl hg68 rfl ?_
              refine WL_no rfl rfl hg68 rfl ?_
              refine WL_no rfl rfl hg68 rfl ?_
              refine WL_q rfl (ev_pick_t rfl hg68 rfl) ?_
              refine WL_q rfl (ev_assign rfl) ?_
              refine WL_nil ?_
              refine blockE_n ?_
              refine thenE_n ?_
              refine W_region ?_
              refine WL_q rfl (ev_add rfl rfl (by omega)) ?_
              refine WL_q rfl (ev_move rfl) ?_
              refine WL_nil ?_
              refine thenE_n ?_
              exact ⟨u + 1, (Subs.c rfl (Subs.c rfl (Subs.c rfl (Subs.c rfl (Subs.c rfl (Subs.c rfl (Subs.c rfl (Subs.c rfl (Subs.c rfl (Subs.c rfl Subs.n)))))))))), (Subs.c (lkV rfl (congrArg (fun l => Value.string (bs l)) (brS_step hult hep hei (by rw [if_pos (by omega)])))) (Subs.c (lkB rfl (lng_t hg68)) (Subs.c (lkI rfl (by omega)) Subs.n))), ⟨hRL6, by omega⟩, by first | omega | (dsimp only; omega)⟩
            · refine WL_qg rfl rfl hg68 rfl (ev_move rfl) ?_
              refine WL_qg rfl rfl hg68 rfl (ev_fieldAddr fo61_0 rfl) ?_
              refine WL_qg rfl rfl hg68 rfl (ev_load one3 rfl (hB13.cell rfl)) ?_
              have hWS := hO.1.ws
              refine WL_qg rfl rfl hg68 rfl (ev_indexAddr Try.underlying39 sz9 rfl rfl (hWS.isSome (by omega)) (by omega) (by omega)) ?_
              refine WL_qg rfl rfl hg68 rfl (ev_load one9 rfl (hWS.cell hei)) ?_
              refine WL_qg rfl rfl hg68 rfl (ev_eql_str (b := []) rfl rfl) ?_
              refine WL_q rfl (ev_pick_f rfl hg68 rfl) ?_
              refine WL_q rfl (ev_assign rfl) ?_
              refine WL_nil ?_
              refine blockE_n ?_
              refine thenE_n ?_
              refine W_region ?_
              refine WL_q rfl (ev_add rfl rfl (by omega)) ?_
              refine WL_q rfl (ev_move rfl) ?_
              refine WL_nil ?_
              refine thenE_n ?_
              exact ⟨u + 1, (Subs.c rfl (Subs.c rfl (Subs.c rfl (Subs.c rfl (Subs.c rfl (Subs.c rfl (Subs.c rfl (Subs.c rfl (Subs.c rfl (Subs.c rfl Subs.n)))))))))), (Subs.c (lkV rfl (congrArg (fun l => Value.string (bs l)) (brS_step hult hep hei (by rw [if_pos (by omega)])))) (Subs.c (lkB rfl (lng_f hult hei hg68)) (Subs.c (lkI rfl (by omega)) Subs.n))), ⟨hRL6, by omega⟩, by first | omega | (dsimp only; omega)⟩
          · have hp50 := of_decide_eq_false hg50
            refine W_region ?_
            refine WL_q rfl (ev_move rfl) ?_
            refine WL_q rfl (ev_addS (b := [44]) rfl rfl (by (try simp only [List.length_append, List.length_cons, List.length_nil]); omega)) ?_
            refine WL_q rfl (ev_assign rfl) ?_
            refine WL_nil ?_
            refine thenE_n ?_
            refine W_seq ?_
            refine W_drawE [(0, true), (1, true), (2, true), (5, true), (6, true), (7, true), (8, true), (9, true), (3, false), (4, true), (10, true), (11, true), (12, true)] mixed (by kernel_rfl) rfl (by kernel_rfl) ?_
            intro wd20 hEd20 hzd20
            replace hE := hE.trans hEd20
            replace hRL2 := hRL2.trans hEd20
            replace hRL4 := hRL4.trans hEd20
            replace hRL6 := hRL6.trans hEd20
            replace hA := hA.ext hEd20
            replace hB2 := hB2.ext hEd20
            replace hO := hO.ext hEd20
            replace hO7 := hO7.ext hEd20
            replace hr37 := hr37.ext hEd20
            replace hB13 := hB13.ext hEd20
            have hWS := hO.1.ws
            have hDd20 := Ext.refl wd20
            refine PW_q rfl rfl (fun wq hq => ev_move rfl) ?_
            refine PW_q rfl rfl (fun wq hq => ev_fieldAddr fo61_1 rfl) ?_
            refine PW_q rfl rfl (fun wq hq => ev_load one3 rfl (hq.cell (hB13.cell rfl))) ?_
            refine PW_q rfl rfl (fun wq hq => ev_move rfl) ?_
            refine PW_q rfl rfl (fun wq hq => ev_fieldAddr fo61_0 rfl) ?_
            refine PW_q rfl rfl (fun wq hq => ev_load one3 rfl (hq.cell (hB13.cell rfl))) ?_
            refine PW_q rfl rfl (fun wq hq => ev_indexAddr Try.underlying39 sz9 rfl rfl (hWS.isSome (by omega)) (by omega) (by omega)) ?_
            refine PW_q rfl rfl (fun wq hq => ev_load one9 rfl (hq.cell (hWS.cell hei))) ?_
            refine PW_m rfl rfl (ev_call rfl (l1Num_1 _ _ (by omega))) ?_
            rintro _ w58 ⟨rfl, hE58⟩
            have hz58 := hE58.size
            replace hE := hE.trans hE58
            replace hRL2 := hRL2.trans hE58
            replace hRL4 := hRL4.trans hE58
            replace hRL6 := hRL6.trans hE58
            replace hDd20 := hDd20.trans hE58
            refine ⟨hDd20, ?_⟩
            refine PW_q rfl rfl (fun wq hq => ev_addS (b := [58]) rfl rfl (by (try simp only [List.length_append, List.length_cons, List.length_nil]); omega)) ?_
            refine PW_q rfl rfl (fun wq hq => ev_addS rfl rfl (by (try simp only [List.length_append, List.length_cons, List.length_nil]); omega)) ?_
            refine PW_q rfl rfl (fun wq hq => ev_addS rfl rfl (by (try simp only [List.length_append, List.length_cons, List.length_nil]); omega)) ?_
            refine PW_q rfl rfl (fun wq hq => ev_assign rfl) ?_
            replace hA := hA.ext hDd20
            replace hB2 := hB2.ext hDd20
            replace hO := hO.ext hDd20
            replace hO7 := hO7.ext hDd20
            replace hr37 := hr37.ext hDd20
            replace hB13 := hB13.ext hDd20
            refine PW_nil ?_
            refine thenE_n ?_
            refine W_region ?_
            refine WL_q rfl (ev_move rfl) ?_
            refine WL_q rfl (ev_move rfl) ?_
            refine WL_splitv (t := 68) rfl (fun hg68 => ?_) (fun hg68 => ?_)
            · refine WL_no rfl rfl hg68 rfl ?_
              refine WL_no rfl rfl hg68 rfl ?_
              refine WL_no rfl rfl hg68 rfl ?_
              refine WL_no rfl rfl hg68 rfl ?_
              refine WL_no rfl rfl hg68 rfl ?_
              refine WL_no rfl rfl hg68 rfl ?_
              refine WL_q rfl (ev_pick_t rfl hg68 rfl) ?_
              refine WL_q rfl (ev_assign rfl) ?_
              refine WL_nil ?_
              refine blockE_n ?_
              refine thenE_n ?_
              refine W_region ?_
              refine WL_q rfl (ev_add rfl rfl (by omega)) ?_
              refine WL_q rfl (ev_move rfl) ?_
              refine WL_nil ?_
              refine thenE_n ?_
              exact ⟨u + 1, (Subs.c rfl (Subs.c rfl (Subs.c rfl (Subs.c rfl (Subs.c rfl (Subs.c rfl (Subs.c rfl (Subs.c rfl (Subs.c rfl (Subs.c rfl Subs.n)))))))))), (Subs.c (lkV rfl (congrArg (fun l => Value.string (bs l)) (brS_step hult hep hei (by rw [if_neg (by omega)])))) (Subs.c (lkB rfl (lng_t hg68)) (Subs.c (lkI rfl (by omega)) Subs.n))), ⟨hRL6, by omega⟩, by first | omega | (dsimp only; omega)⟩
            · refine WL_qg rfl rfl hg68 rfl (ev_move rfl) ?_
              refine WL_qg rfl rfl hg68 rfl (ev_fieldAddr fo61_0 rfl) ?_
              refine WL_qg rfl rfl hg68 rfl (ev_load one3 rfl (hB13.cell rfl)) ?_
              have hWS := hO.1.ws
              refine WL_qg rfl rfl hg68 rfl (ev_indexAddr Try.underlying39 sz9 rfl rfl (hWS.isSome (by omega)) (by omega) (by omega)) ?_
              refine WL_qg rfl rfl hg68 rfl (ev_load one9 rfl (hWS.cell hei)) ?_
              refine WL_qg rfl rfl hg68 rfl (ev_eql_str (b := []) rfl rfl) ?_
              refine WL_q rfl (ev_pick_f rfl hg68 rfl) ?_
              refine WL_q rfl (ev_assign rfl) ?_
              refine WL_nil ?_
              refine blockE_n ?_
              refine thenE_n ?_
              refine W_region ?_
              refine WL_q rfl (ev_add rfl rfl (by omega)) ?_
              refine WL_q rfl (ev_move rfl) ?_
              refine WL_nil ?_
              refine thenE_n ?_
              exact ⟨u + 1, (Subs.c rfl (Subs.c rfl (Subs.c rfl (Subs.c rfl (Subs.c rfl (Subs.c rfl (Subs.c rfl (Subs.c rfl (Subs.c rfl (Subs.c rfl Subs.n)))))))))), (Subs.c (lkV rfl (congrArg (fun l => Value.string (bs l)) (brS_step hult hep hei (by rw [if_neg (by omega)])))) (Subs.c (lkB rfl (lng_f hult hei hg68)) (Subs.c (lkI rfl (by omega)) Subs.n))), ⟨hRL6, by omega⟩, by first | omega | (dsimp only; omega)⟩
        · have hp45 := of_decide_eq_false hg45
          refine W_exit ?_
          refine thenE_x ?_
          refine thenE_x ?_
          refine blockE_hit ?_
          refine thenE_n ?_
          have hu9 : u = A.ends[i].length := by omega
          refine W_join (G := Unit) [(1, _), (2, _), (5, _), (7, _), (11, _), (32, _), (33, _), (34, _)] ((Subs.c rfl (Subs.c rfl (Subs.c rfl (Subs.c rfl (Subs.c rfl (Subs.c rfl (Subs.c rfl (Subs.c rfl Subs.n))))))))) (fun _ => [(10, .string (bs (finS A (txS A j) i)))]) (fun _ w' => Ext wL6 w') ?_ ?_
          · have hRJ79 : Ext wL6 wL6 := Ext.refl _
            refine W_seq ?_
            refine W_region ?_
            refine WL_q rfl (ev_move rfl) ?_
            refine WL_q rfl (ev_len Try.underlying46 rfl) ?_
            refine WL_q rfl (ev_gtr rfl rfl) ?_
            refine WL_nil ?_
            refine thenE_n ?_
            refine W_cond rfl (fun hg79 => ?_) (fun hg79 => ?_)
            · have hp79 := of_decide_eq_true hg79
              refine W_region ?_
              refine WL_q rfl (ev_move rfl) ?_
              refine WL_q rfl (ev_addS (b := [41]) rfl rfl (by (try simp only [List.length_append, List.length_cons, List.length_nil]); omega)) ?_
              refine WL_q rfl (ev_assign rfl) ?_
              refine WL_nil ?_
              refine thenE_n ?_
              exact ⟨(), (Subs.c rfl (Subs.c rfl (Subs.c rfl (Subs.c rfl (Subs.c rfl (Subs.c rfl (Subs.c rfl (Subs.c rfl Subs.n)))))))), (Subs.c (lkV rfl (congrArg (fun l => Value.string (bs l)) (fin_yes hilt (by omega) hu9))) Subs.n), hRJ79⟩
            · have hp79 := of_decide_eq_false hg79
              refine W_skip ?_
              refine thenE_n ?_
              exact ⟨(), (Subs.c rfl (Subs.c rfl (Subs.c rfl (Subs.c rfl (Subs.c rfl (Subs.c rfl (Subs.c rfl (Subs.c rfl Subs.n)))))))), (Subs.c (lkV rfl (congrArg (fun l => Value.string (bs l)) (fin_no hilt (by omega) hu9))) Subs.n), hRJ79⟩
          · rintro _ wJ79 hEJ79
            have hzJ79 := hEJ79.size
            replace hE := hE.trans hEJ79
            replace hRL2 := hRL2.trans hEJ79
            replace hRL4 := hRL4.trans hEJ79
            replace hA := hA.ext hEJ79
            replace hB2 := hB2.ext hEJ79
            replace hO := hO.ext hEJ79
            replace hO7 := hO7.ext hEJ79
            replace hr37 := hr37.ext hEJ79
            have hfl := fin_len (A := A) (t := j) (v := i) (es := A.ends[i]) (by rw [List.getElem?_eq_getElem hilt]; rfl) h6i
            refine W_join (G := Unit) [(1, _), (2, _), (5, _), (7, _), (32, _), (33, _), (34, _)] ((Subs.c rfl (Subs.c rfl (Subs.c rfl (Subs.c rfl (Subs.c rfl (Subs.c rfl (Subs.c rfl Subs.n)))))))) (fun _ => [(10, .string (bs (shV (txtV A (j + 1) i))))]) (fun _ w' => Ext wJ79 w') ?_ ?_
            · have hRJ87 : Ext wJ79 wJ79 := Ext.refl _
              refine W_seq ?_
              refine W_region ?_
              refine WL_q rfl (ev_move rfl) ?_
              refine WL_q rfl (ev_move rfl) ?_
              refine WL_splitv (t := 83) rfl (fun hg83 => ?_) (fun hg83 => ?_)
              · refine WL_no rfl rfl hg83 rfl ?_
                refine WL_no rfl rfl hg83 rfl ?_
                refine WL_no rfl rfl hg83 rfl ?_
                refine WL_q rfl (ev_pick_t rfl hg83 rfl) ?_
                refine WL_nil ?_
                refine thenE_n ?_
                refine W_cond_t rfl ?_
                refine W_region ?_
                refine WL_q rfl (ev_assign rfl) ?_
                refine WL_nil ?_
                refine thenE_n ?_
                exact ⟨(), (Subs.c rfl (Subs.c rfl (Subs.c rfl (Subs.c rfl (Subs.c rfl (Subs.c rfl (Subs.c rfl Subs.n))))))), (Subs.c (lkV rfl (congrArg (fun l => Value.string (bs l)) (txS_1 hkA hilt hu9 hg83))) Subs.n), hRJ87⟩
              · refine WL_qg rfl rfl hg83 rfl (ev_move rfl) ?_
                refine WL_qg rfl rfl hg83 rfl (ev_len_s Try.underlying9 rfl) ?_
                rw [bs_size]
                refine WL_qg rfl rfl hg83 rfl (ev_gtr rfl rfl) ?_
                refine WL_q rfl (ev_pick_f rfl hg83 rfl) ?_
                refine WL_nil ?_
                refine thenE_n ?_
                refine W_cond rfl (fun hg86 => ?_) (fun hg86 => ?_)
                · have hp86 := of_decide_eq_true hg86
                  refine W_region ?_
                  refine WL_q rfl (ev_assign rfl) ?_
                  refine WL_nil ?_
                  refine thenE_n ?_
                  exact ⟨(), (Subs.c rfl (Subs.c rfl (Subs.c rfl (Subs.c rfl (Subs.c rfl (Subs.c rfl (Subs.c rfl Subs.n))))))), (Subs.c (lkV rfl (congrArg (fun l => Value.string (bs l)) (txS_2 hkA hilt (by omega)))) Subs.n), hRJ87⟩
                · have hp86 := of_decide_eq_false hg86
                  refine W_skip ?_
                  refine thenE_n ?_
                  exact ⟨(), (Subs.c rfl (Subs.c rfl (Subs.c rfl (Subs.c rfl (Subs.c rfl (Subs.c rfl (Subs.c rfl Subs.n))))))), (Subs.c (lkV rfl (congrArg (fun l => Value.string (bs l)) (txS_3 hkA hilt hu9 hg83 (by omega)))) Subs.n), hRJ87⟩
            · rintro _ wJ87 hEJ87
              have hzJ87 := hEJ87.size
              replace hE := hE.trans hEJ87
              replace hRL2 := hRL2.trans hEJ87
              replace hRL4 := hRL4.trans hEJ87
              replace hA := hA.ext hEJ87
              replace hB2 := hB2.ext hEJ87
              replace hO := hO.ext hEJ87
              replace hO7 := hO7.ext hEJ87
              replace hr37 := hr37.ext hEJ87
              refine W_region ?_
              refine WL_q rfl (ev_move rfl) ?_
              refine WL_q rfl (ev_move rfl) ?_
              refine WL_m rfl (ev_lit1 Try.underlying39 el9 (by decide) (by decide) rfl rfl) ?_
              rintro _ w90 ⟨rfl, hN90⟩
              have hz90 := hN90.size
              replace hE := hE.trans hN90.ext
              replace hRL2 := hRL2.trans hN90.ext
              replace hRL4 := hRL4.trans hN90.ext
              replace hA := hA.ext hN90.ext
              replace hB2 := hB2.ext hN90.ext
              replace hO := hO.ext hN90.ext
              replace hO7 := hO7.ext hN90.ext
              replace hr37 := hr37.ext hN90.ext
              have hB90 := hN90.blk
              refine WL_m rfl (ev_appendT Try.underlying39 el9 rfl (by decide) rfl rfl hO7 (SAt.of_blk (cs := [_]) (ds := []) hB90) rfl (by simp [Value.oneCell']) (by omega) (by unfold maxLen; omega) (by omega)) ?_
              rintro _ w91 ⟨a91, c91, rfl, hO91, hK91, hQ91⟩
              have hz91 := hK91.size
              replace hE := hE.rg hK91 (by omega)
              replace hRL2 := hRL2.rg hK91 (by omega)
              replace hRL4 := hRL4.rg hK91 (by omega)
              replace hA := hA.rg hK91 (by omega)
              replace hB2 := hB2.rg hK91 (by omega)
              replace hO := hO.rg hK91 (by omega)
              replace hr37 := hr37.rg hK91 (by omega)
              replace hO7 := hO91
              refine WL_q rfl (ev_assign rfl) ?_
              refine WL_nil ?_
              refine blockE_n ?_
              refine thenE_n ?_
              refine W_region ?_
              refine WL_q rfl (ev_add rfl rfl (by omega)) ?_
              refine WL_q rfl (ev_move rfl) ?_
              refine WL_nil ?_
              refine thenE_n ?_
              exact ⟨(i + 1, a91, c91), (Subs.c rfl (Subs.c rfl (Subs.c rfl (Subs.c rfl (Subs.c rfl Subs.n))))), (Subs.c rfl (Subs.c (lkI rfl (by omega)) Subs.n)), ⟨hRL4, ⟨by omega, by rw [← txS_snoc hilt rfl, List.map_append]; exact hO7⟩⟩, by first | omega | (dsimp only; omega)⟩
      · have hp35 := of_decide_eq_false hg35
        refine W_exit ?_
        refine thenE_x ?_
        refine thenE_x ?_
        refine blockE_hit ?_
        refine thenE_n ?_
        refine W_region ?_
        refine WL_q rfl (ev_move rfl) ?_
        refine WL_q rfl (ev_assign rfl) ?_
        refine WL_nil ?_
        refine blockE_n ?_
        refine thenE_n ?_
        refine W_region ?_
        refine WL_q rfl (ev_move rfl) ?_
        refine WL_q rfl (ev_sub rfl rfl (by omega)) ?_
        refine WL_q rfl (ev_assign rfl) ?_
        refine WL_nil ?_
        refine thenE_n ?_
        have hi9 : i = A.ends.length := by omega
        rw [hi9, txS_take] at hO7
        exact ⟨(j + 1, a3, c3), (Subs.c rfl Subs.n), (Subs.c (lkI rfl (by omega)) (Subs.c (lkS rfl (by omega)) Subs.n)), ⟨hRL2, ⟨by omega, hO7.up (by omega) (by omega)⟩⟩, by first | omega | (dsimp only; omega)⟩
    · have hp28 := of_decide_eq_false hg28
      refine W_exit ?_
      refine thenE_x ?_
      refine thenE_x ?_
      refine blockE_hit ?_
      refine thenE_n ?_
      refine W_seq ?_
      refine W_region ?_
      refine WL_q rfl (ev_move rfl) ?_
      refine WL_q rfl (ev_assign rfl) ?_
      refine WL_nil ?_
      refine thenE_n ?_
      refine W_ret ?_
      refine ret1 rfl rfl ?_
      have hj9 : d.toNat = j := by omega
      exact ⟨a2, c2, rfl, by rw [hj9]; exact hO.1.mono (by omega), hE⟩

theorem RV_sh {A : Net} {v d : Int} (h : (NOk A ∧ HasNode A v) ∧ (0 ≤ d ∧ d ≤ 80)) : RV ([] : List UInt8) (opt (VTOk A v d) (txtV A d.toNat v.toNat)) (shV (txtV A d.toNat v.toNat)) (decide (shV (txtV A d.toNat v.toNat) ≠ [])) := by
  by_cases h4 : (txtV A d.toNat v.toNat).length ≤ 4000
  · have e : decide (shV (txtV A d.toNat v.toNat) ≠ []) = true := by
      rw [shV_eq h4]; refine decide_eq_true fun e => ?_
      have := txtV_pos (A := A) (t := d.toNat) (v := v.toNat); rw [e] at this; simp at this
    rw [e]
    exact .yes ⟨h.1, h.2, h4⟩ (shV_eq h4)
  · have e : shV (txtV A d.toNat v.toNat) = [] := (shV_nil txtV_pos).2 (by omega)
    rw [e]
    exact .no fun h5 => h4 h5.2.2

set_option maxRecDepth 100000 in
theorem sViewText_spec {loA hiA : Nat} (nA : NA) (A : Net) (v : Int) (d : Int) (w : World) (hA : IsNet loA hiA w nA A) (hhiA : hiA ≤ w.heap.size) (hnA : totN A ≤ 1048576) :
    Fn Try.prog 5 #[netV nA A, VI v, VI d] w (fun o9 w' => ∃ s q, o9 = .tuple #[.string (bs s), VB q] ∧ RV ([] : List UInt8) (opt (VTOk A v d) (txtV A d.toNat v.toNat)) s q ∧ Ext w w') := by
  have hqA := totL_len A.ends
  have hmA : totL A.ends + A.ids.length + A.inputs.length ≤ 1048576 := hnA
  have hE := Ext.refl w
  refine Fn_of Try.func5 rfl rfl (by kernel_rfl) rfl ?_
  refine W_seq ?_
  refine W_region ?_
  refine WL_m rfl (ev_box rfl) ?_
  rintro _ w3 ⟨rfl, hN3⟩
  have hz3 := hN3.size
  replace hE := hE.trans hN3.ext
  replace hA := hA.ext hN3.ext
  have hB3 : Blk w3 _ _ [_, _, _] := hN3.blk
  refine WL_q rfl (ev_assign rfl) ?_
  refine WL_q rfl (ev_assign rfl) ?_
  refine WL_nil ?_
  refine thenE_n ?_
  refine W_seq ?_
  refine W_seq ?_
  refine W_region ?_
  refine WL_q rfl (ev_loads st31 sz31 rfl (cellsB hB3) rfl) ?_
  refine WL_q rfl (ev_move rfl) ?_
  refine WL_m rfl (ev_call rfl (neNode_spec _ A _ _ hA (by omega) (by omega))) ?_
  rintro _ w11 ⟨b11, rfl, hb11, hE11⟩
  have hz11 := hE11.size
  replace hE := hE.trans hE11
  replace hA := hA.ext hE11
  replace hB3 := hB3.ext hE11
  refine WL_q rfl (ev_not rfl) ?_
  refine WL_q rfl (ev_move rfl) ?_
  refine WL_splitv (t := 13) rfl (fun hg12 => ?_) (fun hg12 => ?_)
  · have hg11 := not_true hg12
    have hp11 := ttN hb11 hg11
    refine WL_no rfl rfl hg12 rfl ?_
    refine WL_no rfl rfl hg12 rfl ?_
    refine WL_no rfl rfl hg12 rfl ?_
    refine WL_q rfl (ev_pick_t rfl hg12 rfl) ?_
    refine WL_nil ?_
    refine thenE_n ?_
    refine W_cond_t rfl ?_
    refine W_seq ?_
    refine W_region ?_
    refine WL_q rfl (ev_assign rfl) ?_
    refine WL_q rfl (ev_assign rfl) ?_
    refine WL_nil ?_
    refine thenE_n ?_
    refine W_ret ?_
    refine thenE_r ?_
    refine ret2 rfl rfl rfl ?_
    first | (exact ⟨[], _, rfl, .no fun h => hp11 h.1, hE⟩) | (exact ⟨[], _, rfl, .no fun h => hp15 h.2.1, hE⟩) | (exact ⟨_, _, rfl, RV_sh ⟨hp11, hp15⟩, hE⟩)
  · have hg11 := not_false hg12
    have hp11 := hb11.1 hg11
    refine WL_qg rfl rfl hg12 rfl (ev_move rfl) ?_
    refine WL_mg rfl rfl hg12 rfl (ev_call rfl (viDepth_spec _ _)) ?_
    rintro _ _ ⟨rfl, rfl⟩
    refine WL_qg rfl rfl hg12 rfl (ev_not rfl) ?_
    refine WL_q rfl (ev_pick_f rfl hg12 rfl) ?_
    refine WL_nil ?_
    refine thenE_n ?_
    refine W_cond rfl (fun hg16 => ?_) (fun hg16 => ?_)
    · have hg15 := not_true hg16
      have hp15 := inR_false.1 hg15
      refine W_seq ?_
      refine W_region ?_
      refine WL_q rfl (ev_assign rfl) ?_
      refine WL_q rfl (ev_assign rfl) ?_
      refine WL_nil ?_
      refine thenE_n ?_
      refine W_ret ?_
      refine thenE_r ?_
      refine ret2 rfl rfl rfl ?_
      first | (exact ⟨[], _, rfl, .no fun h => hp11 h.1, hE⟩) | (exact ⟨[], _, rfl, .no fun h => hp15 h.2.1, hE⟩) | (exact ⟨_, _, rfl, RV_sh ⟨hp11, hp15⟩, hE⟩)
    · have hg15 := not_false hg16
      have hp15 := inR_true.1 hg15
      refine W_skip ?_
      refine thenE_n ?_
      refine W_seq ?_
      refine W_region ?_
      refine WL_q rfl (ev_loads st31 sz31 rfl (cellsB hB3) rfl) ?_
      refine WL_q rfl (ev_move rfl) ?_
      have hkA := hp11.1
      have hv2 := hp11.2.2
      have hv1 := hp11.2.1
      refine WL_m rfl (ev_call rfl (viTexts_spec _ A _ _ hA (by omega) (by omega) hkA (by omega))) ?_
      rintro _ w20 ⟨a20, c20, rfl, hO20, hE20⟩
      have hz20 := hE20.size
      replace hE := hE.trans hE20
      replace hA := hA.ext hE20
      replace hB3 := hB3.ext hE20
      refine WL_q rfl (ev_move rfl) ?_
      have hWS := hO20.ws
      have htl := txS_len (A := A) (t := d.toNat)
      refine WL_q rfl (ev_indexAddr Try.underlying39 sz9 rfl rfl (hWS.isSome (by omega)) (by omega) (by omega)) ?_
      refine WL_q rfl (ev_load one9 rfl (hWS.cell (i := v.toNat) (by omega))) ?_
      rw [txS_get]
      refine WL_q rfl (ev_assign rfl) ?_
      refine WL_nil ?_
      refine thenE_n ?_
      refine W_seq ?_
      refine W_region ?_
      refine WL_q rfl (ev_move rfl) ?_
      refine WL_q rfl (ev_move rfl) ?_
      refine WL_q rfl (ev_neq_str (b := []) rfl rfl) ?_
      refine WL_q rfl (ev_assign rfl) ?_
      refine WL_q rfl (ev_assign rfl) ?_
      refine WL_nil ?_
      refine thenE_n ?_
      refine W_ret ?_
      refine ret2 rfl rfl rfl ?_
      first | (exact ⟨[], _, rfl, .no fun h => hp11 h.1, hE⟩) | (exact ⟨[], _, rfl, .no fun h => hp15 h.2.1, hE⟩) | (exact ⟨_, _, rfl, RV_sh ⟨hp11, hp15⟩, hE⟩)

end Go.Proofs.Yticlopepmnlkmaa
