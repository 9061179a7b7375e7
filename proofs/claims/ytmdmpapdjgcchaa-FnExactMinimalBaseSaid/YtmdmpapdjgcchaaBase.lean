/- Contracts of the minimal base, of the program and of the reference; the walk of FnExactMinimalBase. -/
import Derived.Test.YtmdmpapdjgcchaaQuot2
namespace Go.Proofs.Ytmdmpapdjgcchaa
open Go Go.RowKit

theorem class_all {κ : Type} [DecidableEq κ] {ks : List κ} {c : Nat} (h : c < (dds ks).length) : (c : Int) ∈ classOf ks := by
  have hm : (dds ks)[c] ∈ ks := mem_dds.1 (List.getElem_mem h)
  have hlt := cidx_lt (List.getElem_mem h)
  have e : cidx (dds ks) (dds ks)[c] = c := nodup_idx (dds_nodup ks) hlt h (cidx_get hlt)
  unfold classOf
  exact List.mem_map.2 ⟨_, hm, by rw [e]⟩
theorem vw_all {A : Net} {t c : Nat} (h : c < vc A t) : (c : Int) ∈ vw A t := by
  obtain ⟨C, e⟩ := vw_eq A t
  rw [vc_eq e] at h
  rw [e]; exact class_all h
theorem vw_lt {A : Net} (h0 : 0 < A.ends.length) (t : Nat) : ∀ x ∈ vw A t, 0 ≤ x ∧ x.toNat < vc A t := fun x hx => by
  have h := vw_top h0 t
  have := h.2 x hx
  have h1 := h.2 _ h.1
  omega
/-- Twins of one class look alike. -/
theorem twin_row {A : Net} (hk : EndsOk A.ends) {T : Nat} (hs : StableAt A T) {u v : Nat} (hu : u < A.ends.length) (hv : v < A.ends.length) (h : (vw A T).getD u 0 = (vw A T).getD v 0) : rowOf A (vw A T) u = rowOf A (vw A T) v ∧ A.inputs.getD u 0 = A.inputs.getD v 0 := by
  have e : vw A (T + 1) = vw A T := view_stop hk hs.here
  have h2 := (view_same (t := T + 1) hu hv).1 (by show (vw A (T + 1)).getD u 0 = (vw A (T + 1)).getD v 0; rw [e]; exact h)
  obtain ⟨h3, h4, h5⟩ := vkey_some.1 h2
  refine ⟨?_, h4⟩
  unfold rowOf
  have h6 := congrArg (List.map fun p : Int × Int => (p.2, p.1)) h5
  simpa [List.map_map, Function.comp_def] using h6
section
variable {A : Net} {T : Nat}
theorem base_at (hkA : NOk A) (hs : StableAt A T) {u : Nat} (hu : u < A.ends.length) (h1 : u < (vw A T).length) : ∃ _h : ((vw A T)[u]).toNat < vc A T, (quoK A (vw A T) (vc A T)).ends.getD ((vw A T)[u]).toNat [] = rowOf A (vw A T) u ∧ (quoK A (vw A T) (vc A T)).inputs.getD ((vw A T)[u]).toNat 0 = A.inputs.getD u 0 := by
  have hpos : 0 < A.ends.length := by have := hkA.nodes; omega
  have hr := vw_lt hpos T
  have hx := hr _ (List.getElem_mem h1)
  have hall : ∀ c, c < vc A T → 0 < ((fibs (vw A T) (vc A T)).getD c []).length := fun c hc => (hasC hr hc).1 (vw_all hc)
  have hf := fst_hd hr hx.2 (hall _ hx.2)
  unfold fstC at hf
  rw [List.find?_range_eq_some] at hf
  obtain ⟨g1, g2, _⟩ := hf
  have g2 := List.mem_range.1 g2
  rw [vw_len] at g2
  simp only [Nat.zero_le, decide_true, Bool.true_and] at g1
  have g1 := of_decide_eq_true g1
  have e0 : (vw A T).getD u 0 = (vw A T)[u] := getD_eq h1
  have e1 := twin_row hkA.endsOk hs g2 hu (by rw [g1, e0]; omega)
  refine ⟨hx.2, ?_, ?_⟩
  · unfold quoK qE
    rw [getD_eq (by simpa using hx.2)]
    simp only [List.getElem_map, List.getElem_range]
    exact e1.1
  · unfold quoK qI
    rw [getD_eq (by simpa using hx.2)]
    simp only [List.getElem_map, List.getElem_range]
    exact e1.2
theorem base_ok (hkA : NOk A) (hs : StableAt A T) : QV A (vw A T) (vc A T) := by
  have hnd := hkA.nodes
  have hpos : 0 < A.ends.length := by omega
  have hin := hkA.inLen
  have hr := vw_lt hpos T
  have hl := vw_len A T
  have hv1 : 1 ≤ vc A T := by have h := vw_top hpos T; have := h.2 _ h.1; omega
  have hv2 := vc_le A T
  have hall : ∀ c, c < vc A T → 0 < ((fibs (vw A T) (vc A T)).getD c []).length := fun c hc => (hasC hr hc).1 (vw_all hc)
  have hE : (quoK A (vw A T) (vc A T)).ends.length = vc A T := qE_len
  have hI : (quoK A (vw A T) (vc A T)).inputs.length = vc A T := qI_len
  -- each class has a node
  have node : ∀ c, c < vc A T → ∃ u, ∃ _hu : u < A.ends.length, ∃ h1 : u < (vw A T).length, (vw A T)[u] = (c : Int) := fun c hc => by
    obtain ⟨u, hu, e⟩ := List.mem_iff_getElem.1 (vw_all hc)
    exact ⟨u, by omega, hu, e⟩
  refine ⟨⟨by omega, allR_true.2 fun x hx => by have := vw_rng A T x hx; omega⟩, hall, ⟨by omega, .inl rfl, by omega, allR_true.2 fun x hx => ?_, fun c hc => ?_⟩, ⟨by omega, allR_true.2 fun x hx => by have := hr x hx; omega, fun v hv => ?_⟩⟩
  · obtain ⟨c, hc, rfl⟩ := List.mem_iff_getElem.1 hx
    obtain ⟨u, hu, h1, e⟩ := node c (by omega)
    obtain ⟨h2, _, h4⟩ := base_at hkA hs hu h1
    rw [e] at h4
    simp only [Int.toNat_natCast] at h4
    rw [getD_eq hc] at h4
    rw [h4, getD_eq (show u < A.inputs.length by omega)]
    exact allR_true.1 hkA.inputs _ (List.getElem_mem _)
  · have hc' : c < vc A T := by omega
    obtain ⟨u, hu, h1, e⟩ := node c hc'
    obtain ⟨_, h3, _⟩ := base_at hkA hs hu h1
    rw [e] at h3
    simp only [Int.toNat_natCast] at h3
    rw [getD_eq hc] at h3
    rw [h3]
    have hrl := rowOf_len (A := A) (C := vw A T) hu
    refine ⟨by rw [hrl]; exact (hkA.rows u hu).1, fun i hi => ?_⟩
    rw [hrl] at hi
    obtain ⟨k1, k2, k3, k4, k5⟩ := hkA.endOk hu hi
    have hw : A.ends[u][i].1.toNat < (vw A T).length := by omega
    obtain ⟨j2, j3, _⟩ := base_at hkA hs k2 hw
    have er : (rowOf A (vw A T) u)[i]'(by rw [hrl]; exact hi) = ((vw A T)[A.ends[u][i].1.toNat], A.ends[u][i].2) := by
      simp only [rowOf, List.getElem_map, getD_eq hu, getD_eq hw]
    simp only [er]
    refine ⟨(hr _ (List.getElem_mem hw)).1, by rw [hE]; exact j2, k3, ?_⟩
    rw [getD_eq (by rw [hE]; exact j2)] at j3
    simp only [j3]
    refine ⟨by rw [rowOf_len k2]; exact k4, ?_⟩
    simp only [rowOf, List.getElem_map, getD_eq k2, k5]
    rw [Int.toNat_natCast, getD_eq h1, e]
  · have h1 : v < (vw A T).length := by omega
    obtain ⟨h2, h3, h4⟩ := base_at hkA hs hv h1
    rw [getD_eq (by rw [hE]; exact h2)] at h3
    rw [getD_eq (by rw [hI]; exact h2), getD_eq (show v < A.inputs.length by omega)] at h4
    have hrl := rowOf_len (A := A) (C := vw A T) hv
    refine ⟨h1, by rw [hE]; exact h2, by omega, by rw [hI]; exact h2, by rw [h3, hrl], h4.symm, fun i hi => ⟨by rw [hE]; exact h2, by rw [h3, hrl]; exact hi, ?_, ?_⟩⟩
    · have := (hkA.endOk hv hi).2.1; omega
    · have hw : A.ends[v][i].1.toNat < (vw A T).length := by have := (hkA.endOk hv hi).2.1; omega
      simp only [h3, rowOf, List.getElem_map, getD_eq hv, getD_eq hw]
end
open Classical in
/-- The stable depth. -/
noncomputable def stT (A : Net) : Nat := if h : ∃ T, StableAt A T then h.choose else 0
theorem stT_eq {A : Net} {T : Nat} (h : StableAt A T) : stT A = T := by
  have he : ∃ T, StableAt A T := ⟨T, h⟩
  unfold stT
  rw [dif_pos he]
  exact he.choose_spec.uniq h
noncomputable def baseN (A : Net) : Net := quoK A (vw A (stT A)) (vc A (stT A))
theorem quotient_len {loA hiA loC hiC : Nat} (nA : NA) (A : Net) (aC : Option Addr) (cC n : Nat) (C : List Int) (w : World) (hl : C.length = n) (hA : IsNet loA hiA w nA A) (hhiA : hiA ≤ w.heap.size) (hnA : totN A ≤ 1048576) (hC : Ints loC hiC w aC cC C) (hhiC : hiC ≤ w.heap.size) (hnC : C.length ≤ 1048576) (hkA : NOk A) :
    Fn Try.prog 43 #[netV nA A, .slice aC n cC] w (fun o9 w' => ∃ h' U q, o9 = .tuple #[netV h' U, VB q] ∧ RV (⟨[], [], []⟩ : Net) (opt (QV A C (lmax C + 1).toNat) (quoK A C (lmax C + 1).toNat)) U q ∧ OwnNet w.heap.size w'.heap.size w' 71 3 h' U ∧ totN U ≤ 1048576 ∧ Ext w w') := by
  subst hl; exact quotient_spec nA A aC cC C w hA hhiA hnA hC hhiC hnC hkA
theorem coQuotient_len {loA hiA loC hiC : Nat} (nA : NA) (A : Net) (aC : Option Addr) (cC n : Nat) (C : List Int) (K : Nat) (w : World) (hl : C.length = n) (hA : IsNet loA hiA w nA A) (hhiA : hiA ≤ w.heap.size) (hnA : totN A ≤ 1048576) (hC : Ints loC hiC w aC cC C) (hhiC : hiC ≤ w.heap.size) (hnC : C.length ≤ 1048576) (hkA : NOk A) (hCl : C.length = A.ends.length) (hrC : ∀ x ∈ C, 0 ≤ x ∧ x.toNat < K) (hK : K ≤ 40) (hne : ∀ c, c < K → 0 < ((fibs C K).getD c []).length) :
    Fn Try.prog 39 #[netV nA A, .slice aC n cC, VI (K : Int)] w (fun o9 w' => ∃ h', o9 = netV h' (quoK A C K) ∧ IsNet w.heap.size w'.heap.size w' h' (quoK A C K) ∧ Ext w w') := by
  subst hl; exact coQuotient_spec nA A aC cC C K w hA hhiA hnA hC hhiC hnC hkA hCl hrC hK hne

set_option maxHeartbeats 1000000 in
set_option maxRecDepth 100000 in
theorem MinimalBase_spec {loA hiA : Nat} (nA : NA) (A : Net) (w : World) (hA : IsNet loA hiA w nA A) (hhiA : hiA ≤ w.heap.size) (hnA : totN A ≤ 1048576) :
    Fn Try.prog 20 #[netV nA A] w (fun o9 w' => ∃ h' U q, o9 = .tuple #[netV h' U, VB q] ∧ RV (⟨[], [], []⟩ : Net) (opt (NOk A) (baseN A)) U q ∧ OwnNet w.heap.size w'.heap.size w' 71 3 h' U ∧ totN U ≤ 1048576 ∧ Ext w w') := by
  have hqA := totL_len A.ends
  have hmA : totL A.ends + A.ids.length + A.inputs.length ≤ 1048576 := hnA
  have hE := Ext.refl w
  refine Fn_of Try.func20 rfl rfl (by kernel_rfl) rfl ?_
  refine W_seq ?_
  refine W_region ?_
  refine WL_m rfl (ev_box rfl) ?_
  rintro _ w1 ⟨rfl, hN1⟩
  have hz1 := hN1.size
  replace hE := hE.trans hN1.ext
  replace hA := hA.ext hN1.ext
  have hB1 : Blk w1 _ _ [_, _, _] := hN1.blk
  refine WL_m rfl (ev_alloc zr29) ?_
  rintro _ w2 ⟨rfl, hN2⟩
  have hz2 := hN2.size
  replace hE := hE.trans hN2.ext
  replace hA := hA.ext hN2.ext
  replace hB1 := hB1.ext hN2.ext
  have hB2 : Blk w2 _ _ [_, _, _] := hN2.blk
  refine WL_q rfl (ev_assign rfl) ?_
  refine WL_nil ?_
  refine thenE_n ?_
  refine W_seq ?_
  refine W_region ?_
  refine WL_q rfl (ev_loads st29 sz29 rfl (cellsB hB1) rfl) ?_
  refine WL_m rfl (ev_call rfl (TwinClasses_spec _ A _ hA (by omega) (by omega))) ?_
  rintro _ w8 ⟨a8, n8, c8, q8, rfl, hq8, hOk8, hE8⟩
  have hz8 := hE8.size
  replace hE := hE.trans hE8
  replace hA := hA.ext hE8
  replace hB1 := hB1.ext hE8
  replace hB2 := hB2.ext hE8
  refine WL_q rfl (ev_move rfl) ?_
  refine WL_q rfl (ev_extract rfl rfl) ?_
  refine WL_q rfl (ev_extract rfl rfl) ?_
  refine WL_q rfl (ev_assign rfl) ?_
  refine WL_q rfl (ev_assign rfl) ?_
  refine WL_nil ?_
  refine thenE_n ?_
  refine W_seq ?_
  refine W_seq ?_
  refine W_region ?_
  refine WL_q rfl (ev_move rfl) ?_
  refine WL_q rfl (ev_not rfl) ?_
  refine WL_nil ?_
  refine thenE_n ?_
  refine W_cond rfl (fun hg12 => ?_) (fun hg12 => ?_)
  · have hg10 := not_true hg12
    refine W_seq ?_
    refine W_region ?_
    refine WL_q rfl (ev_buildP0 sn29_3 zr29 ) ?_
    refine WL_s (ev_stores sz29 rfl rfl rfl (by simp [Value.oneCell']) hB2 (by simp)) ?_
    rintro _ w3_1 hS3_1
    have hz3_1 := hS3_1.size
    replace hE := hE.sto hS3_1 (by omega)
    replace hA := hA.sto hS3_1 (by omega)
    replace hB1 := hB1.sto hS3_1 (by omega)
    replace hB2 : Blk w3_1 _ _ [_, _, _] := hS3_1.blk
    refine WL_q rfl (ev_assign rfl) ?_
    refine WL_nil ?_
    refine thenE_n ?_
    refine W_ret ?_
    refine thenE_r ?_
    refine retc2 rfl rfl st29 sz29 (cellsB hB2) rfl rfl ?_
    first | (refine ⟨⟨none, 0, none, 0, none, 0⟩, ⟨[], [], []⟩, _, rfl, .no (fun h => ?_), OwnNet.nil, by decide, hE⟩; have := hq8.2 h; simp_all; done) | (refine ⟨_, _, _, rfl, ?_, hO16.up (by omega) (by omega), hl16, hE⟩; rw [show (lmax (vw A T8) + 1).toNat = vc A T8 by omega] at hr16; unfold baseN; rw [stT_eq hs8]; rw [opt_yes hbo] at hr16; rw [opt_yes hkA]; exact hr16)
  · have hg10 := not_false hg12
    refine W_skip ?_
    refine thenE_n ?_
    refine W_seq ?_
    refine W_region ?_
    have hok : q8 = true := by first | assumption | simp_all
    have hkA := hq8.1 hok
    have hpos := hkA.vok.pos
    obtain ⟨hn8, T8, hs8, hO8⟩ := hOk8 hok
    subst hn8
    have hvl := vw_len A T8
    have hlm := vw_lmax hpos.1 T8
    have hbo := base_ok hkA hs8
    refine WL_q rfl (ev_loads st29 sz29 rfl (cellsB hB1) rfl) ?_
    refine WL_q rfl (ev_move rfl) ?_
    refine WL_m rfl (ev_call rfl (quotient_len _ A _ _ _ (vw A T8) _ hvl hA (by omega) (by omega) (own_i hO8) (by omega) (by omega) hkA)) ?_
    rintro _ w16 ⟨h16, U16, q16, rfl, hr16, hO16, hl16, hE16⟩
    have hz16 := hE16.size
    replace hE := hE.trans hE16
    replace hA := hA.ext hE16
    replace hB1 := hB1.ext hE16
    replace hB2 := hB2.ext hE16
    replace hOk8 := hOk8.ext hE16
    replace hO8 := hO8.ext hE16
    refine WL_q rfl (ev_extract rfl rfl) ?_
    refine WL_q rfl (ev_extract rfl rfl) ?_
    refine WL_s (ev_stores sz29 rfl rfl rfl (by simp [Value.oneCell']) hB2 (by simp)) ?_
    rintro _ w4_5 hS4_5
    have hz4_5 := hS4_5.size
    replace hE := hE.sto hS4_5 (by omega)
    replace hA := hA.sto hS4_5 (by omega)
    replace hB1 := hB1.sto hS4_5 (by omega)
    replace hO16 := hO16.sto hS4_5 (by omega)
    replace hB2 : Blk w4_5 _ _ [_, _, _] := hS4_5.blk
    refine WL_q rfl (ev_assign rfl) ?_
    refine WL_nil ?_
    refine thenE_n ?_
    refine W_ret ?_
    refine retc2 rfl rfl st29 sz29 (cellsB hB2) rfl rfl ?_
    first | (refine ⟨⟨none, 0, none, 0, none, 0⟩, ⟨[], [], []⟩, _, rfl, .no (fun h => ?_), OwnNet.nil, by decide, hE⟩; have := hq8.2 h; simp_all; done) | (refine ⟨_, _, _, rfl, ?_, hO16.up (by omega) (by omega), hl16, hE⟩; rw [show (lmax (vw A T8) + 1).toNat = vc A T8 by omega] at hr16; unfold baseN; rw [stT_eq hs8]; rw [opt_yes hbo] at hr16; rw [opt_yes hkA]; exact hr16)

set_option maxHeartbeats 1000000 in
set_option maxRecDepth 100000 in
theorem coBase_spec {loA hiA : Nat} (nA : NA) (A : Net) (w : World) (hA : IsNet loA hiA w nA A) (hhiA : hiA ≤ w.heap.size) (hnA : totN A ≤ 1048576) (hkA : NOk A) :
    Fn Try.prog 48 #[netV nA A] w (fun o9 w' => ∃ h', o9 = netV h' (baseN A) ∧ IsNet w.heap.size w'.heap.size w' h' (baseN A) ∧ Ext w w') := by
  have hqA := totL_len A.ends
  have hmA : totL A.ends + A.ids.length + A.inputs.length ≤ 1048576 := hnA
  have hv := hkA.vok
  have hpos := hv.pos
  have hndA := hkA.nodes
  have hE := Ext.refl w
  refine Fn_of Try.func48 rfl rfl (by kernel_rfl) rfl ?_
  refine W_seq ?_
  refine W_region ?_
  refine WL_m rfl (ev_box rfl) ?_
  rintro _ w1 ⟨rfl, hN1⟩
  have hz1 := hN1.size
  replace hE := hE.trans hN1.ext
  replace hA := hA.ext hN1.ext
  have hB1 : Blk w1 _ _ [_, _, _] := hN1.blk
  refine WL_m rfl (ev_alloc zr29) ?_
  rintro _ w2 ⟨rfl, hN2⟩
  have hz2 := hN2.size
  replace hE := hE.trans hN2.ext
  replace hA := hA.ext hN2.ext
  replace hB1 := hB1.ext hN2.ext
  have hB2 : Blk w2 _ _ [_, _, _] := hN2.blk
  refine WL_nil ?_
  refine thenE_n ?_
  refine W_seq ?_
  refine W_region ?_
  refine WL_q rfl (ev_loads st29 sz29 rfl (cellsB hB1) rfl) ?_
  refine WL_m rfl (ev_call rfl (viTwins_spec _ A _ hA (by omega) (by omega) (by assumption))) ?_
  rintro _ w5 ⟨T5, a5, c5, rfl, hs5, hO5, hE5⟩
  have hz5 := hE5.size
  replace hE := hE.trans hE5
  replace hA := hA.ext hE5
  replace hB1 := hB1.ext hE5
  replace hB2 := hB2.ext hE5
  refine WL_q rfl (ev_assign rfl) ?_
  refine WL_nil ?_
  refine thenE_n ?_
  refine W_seq ?_
  refine W_drawK (w1.heap.size) (fun w' => True) [(0, true), (1, true), (2, true), (3, false), (4, false), (5, false)] mixed (by kernel_rfl) rfl (by kernel_rfl) (fun _ _ => trivial) ?_
  intro wd2 hEd2 hzd2
  replace hE := hE.trans hEd2
  replace hA := hA.ext hEd2
  replace hB1 := hB1.ext hEd2
  replace hB2 := hB2.ext hEd2
  replace hO5 := hO5.ext hEd2
  replace hO5 := hO5.h
  have hvl := vw_len A T5
  have hrv := vw_rng A T5
  have hmm := vw_mmax hpos.1 T5
  have hbo := base_ok hkA hs5
  have hvc := vc_le A T5
  have hDd2 := KX.refl (w1.heap.size) wd2
  refine PW_q rfl rfl (fun wq hq => ev_loads st29 sz29 rfl (cellsB (hB1.kx hq.1 (by omega))) rfl) ?_
  refine PW_q rfl rfl (fun wq hq => ev_move rfl) ?_
  refine PW_q rfl rfl (fun wq hq => ev_move rfl) ?_
  refine PW_m rfl rfl (ev_call rfl (viMany_spec _ _ (vw A T5) _ hvl (ownt_i hO5) (by omega) (fun x hx => by have := hrv x hx; omega))) ?_
  rintro _ w9 ⟨rfl, hE9⟩
  have hz9 := hE9.size
  replace hE := hE.trans hE9
  replace hDd2 := hDd2.trans hE9
  replace hB2 := hB2.ext hE9
  rw [hmm]
  refine ⟨⟨hDd2, trivial⟩, ?_⟩
  have hA_4 := hA.kx hDd2 (by omega)
  have hB1_4 := hB1.kx hDd2 (by omega)
  have hO5_4 := hO5.kx hDd2 (by omega)
  refine PW_m rfl rfl (ev_call rfl (coQuotient_len _ A _ _ _ (vw A T5) (vc A T5) _ hvl hA_4 (by omega) (by omega) (ownt_i hO5_4) (by omega) (by omega) hkA (by omega) (vw_lt hpos.1 T5) (by omega) hbo.2.1)) ?_
  rintro _ w10 ⟨h10, rfl, hN10, hE10⟩
  have hz10 := hE10.size
  replace hE := hE.trans hE10
  replace hDd2 := hDd2.trans hE10
  replace hB2 := hB2.ext hE10
  refine ⟨⟨hDd2, trivial⟩, ?_⟩
  have hA_5 := hA.kx hDd2 (by omega)
  have hB1_5 := hB1.kx hDd2 (by omega)
  have hO5_5 := hO5.kx hDd2 (by omega)
  refine PW_s rfl (ev_stores sz29 rfl rfl rfl (by simp [Value.oneCell']) hB2 (by simp)) ?_
  rintro _ w2_5 hS2_5
  have hz2_5 := hS2_5.size
  replace hE := hE.sto hS2_5 (by omega)
  replace hDd2 := hDd2.sto hS2_5 (by omega)
  replace hN10 := hN10.sto hS2_5 (by omega)
  replace hB2 : Blk w2_5 _ _ [_, _, _] := hS2_5.blk
  refine ⟨⟨hDd2, trivial⟩, ?_⟩
  replace hA := hA.kx hDd2 (by omega)
  replace hB1 := hB1.kx hDd2 (by omega)
  replace hO5 := hO5.kx hDd2 (by omega)
  refine PW_nil ?_
  refine thenE_n ?_
  refine W_ret ?_
  refine retc rfl rfl st29 sz29 (cellsB hB2) rfl ?_
  refine ⟨h10, ?_, ?_, hE⟩
  · unfold baseN; rw [stT_eq hs5]; rfl
  · unfold baseN; rw [stT_eq hs5]; exact hN10.mono (by omega) (by omega)

theorem base_tot {A : Net} (h : NOk A) : totN (baseN A) ≤ 1048576 := quo_tot h (by have := vc_le A (stT A); have := h.nodes; omega)

set_option maxRecDepth 100000 in
theorem sMinimalBase_spec {loA hiA : Nat} (nA : NA) (A : Net) (w : World) (hA : IsNet loA hiA w nA A) (hhiA : hiA ≤ w.heap.size) (hnA : totN A ≤ 1048576) :
    Fn Try.prog 19 #[netV nA A] w (fun o9 w' => ∃ h' U q, o9 = .tuple #[netV h' U, VB q] ∧ RV (⟨[], [], []⟩ : Net) (opt (NOk A) (baseN A)) U q ∧ IsNet 0 w'.heap.size w' h' U ∧ totN U ≤ 1048576 ∧ Ext w w') := by
  have hqA := totL_len A.ends
  have hmA : totL A.ends + A.ids.length + A.inputs.length ≤ 1048576 := hnA
  have hE := Ext.refl w
  refine Fn_of Try.func19 rfl rfl (by kernel_rfl) rfl ?_
  refine W_seq ?_
  refine W_region ?_
  refine WL_m rfl (ev_box rfl) ?_
  rintro _ w1 ⟨rfl, hN1⟩
  have hz1 := hN1.size
  replace hE := hE.trans hN1.ext
  replace hA := hA.ext hN1.ext
  have hB1 : Blk w1 _ _ [_, _, _] := hN1.blk
  refine WL_m rfl (ev_alloc zr29) ?_
  rintro _ w2 ⟨rfl, hN2⟩
  have hz2 := hN2.size
  replace hE := hE.trans hN2.ext
  replace hA := hA.ext hN2.ext
  replace hB1 := hB1.ext hN2.ext
  have hB2 : Blk w2 _ _ [_, _, _] := hN2.blk
  refine WL_q rfl (ev_assign rfl) ?_
  refine WL_nil ?_
  refine thenE_n ?_
  refine W_seq ?_
  refine W_seq ?_
  refine W_region ?_
  refine WL_q rfl (ev_loads st29 sz29 rfl (cellsB hB1) rfl) ?_
  refine WL_m rfl (ev_call rfl (neGood_spec _ A _ hA (by omega) (by omega))) ?_
  rintro _ w5 ⟨b5, rfl, hb5, hE5⟩
  have hz5 := hE5.size
  replace hE := hE.trans hE5
  replace hA := hA.ext hE5
  replace hB1 := hB1.ext hE5
  replace hB2 := hB2.ext hE5
  refine WL_q rfl (ev_not rfl) ?_
  refine WL_nil ?_
  refine thenE_n ?_
  refine W_cond rfl (fun hg6 => ?_) (fun hg6 => ?_)
  · have hg5 := not_true hg6
    have hp5 := ttN hb5 hg5
    refine W_seq ?_
    refine W_region ?_
    refine WL_q rfl (ev_buildP0 sn29_3 zr29 ) ?_
    refine WL_s (ev_stores sz29 rfl rfl rfl (by simp [Value.oneCell']) hB2 (by simp)) ?_
    rintro _ w2_1 hS2_1
    have hz2_1 := hS2_1.size
    replace hE := hE.sto hS2_1 (by omega)
    replace hA := hA.sto hS2_1 (by omega)
    replace hB1 := hB1.sto hS2_1 (by omega)
    replace hB2 : Blk w2_1 _ _ [_, _, _] := hS2_1.blk
    refine WL_q rfl (ev_assign rfl) ?_
    refine WL_nil ?_
    refine thenE_n ?_
    refine W_ret ?_
    refine thenE_r ?_
    refine retc2 rfl rfl st29 sz29 (cellsB hB2) rfl rfl ?_
    first | (exact ⟨⟨none, 0, none, 0, none, 0⟩, ⟨[], [], []⟩, _, rfl, .no (fun h => hp5 h), ⟨Nest.nil, Ints.nil, Ints.nil⟩, by decide, hE⟩) | (exact ⟨_, _, _, rfl, .yes hp5 rfl, hN9.mono (by omega) (by omega), base_tot hp5, hE⟩)
  · have hg5 := not_false hg6
    have hp5 := hb5.1 hg5
    refine W_skip ?_
    refine thenE_n ?_
    refine W_seq ?_
    refine W_region ?_
    refine WL_q rfl (ev_loads st29 sz29 rfl (cellsB hB1) rfl) ?_
    refine WL_m rfl (ev_call rfl (coBase_spec _ A _ hA (by omega) (by omega) (by assumption))) ?_
    rintro _ w9 ⟨h9, rfl, hN9, hE9⟩
    have hz9 := hE9.size
    replace hE := hE.trans hE9
    replace hA := hA.ext hE9
    replace hB1 := hB1.ext hE9
    replace hB2 := hB2.ext hE9
    refine WL_s (ev_stores sz29 rfl rfl rfl (by simp [Value.oneCell']) hB2 (by simp)) ?_
    rintro _ w3_2 hS3_2
    have hz3_2 := hS3_2.size
    replace hE := hE.sto hS3_2 (by omega)
    replace hA := hA.sto hS3_2 (by omega)
    replace hB1 := hB1.sto hS3_2 (by omega)
    replace hN9 := hN9.sto hS3_2 (by omega)
    replace hB2 : Blk w3_2 _ _ [_, _, _] := hS3_2.blk
    refine WL_q rfl (ev_assign rfl) ?_
    refine WL_nil ?_
    refine thenE_n ?_
    refine W_ret ?_
    refine retc2 rfl rfl st29 sz29 (cellsB hB2) rfl rfl ?_
    first | (exact ⟨⟨none, 0, none, 0, none, 0⟩, ⟨[], [], []⟩, _, rfl, .no (fun h => hp5 h), ⟨Nest.nil, Ints.nil, Ints.nil⟩, by decide, hE⟩) | (exact ⟨_, _, _, rfl, .yes hp5 rfl, hN9.mono (by omega) (by omega), base_tot hp5, hE⟩)

set_option maxHeartbeats 1000000 in
set_option maxRecDepth 100000 in
theorem law_MinimalBase (nA : NA) (A : Net) (w : World) (hA : IsNet 0 w.heap.size w nA A) (hsA : SmN A) :
    Fn Try.prog 4 #[netV nA A] w (fun v w' => v = VB true ∧ Ext w w') := by
  have hE := Ext.refl w
  refine Fn_of Try.func4 rfl rfl (by kernel_rfl) rfl ?_
  refine W_seq ?_
  refine W_region ?_
  refine WL_m rfl (ev_box rfl) ?_
  rintro _ w1 ⟨rfl, hN1⟩
  have hz1 := hN1.size
  replace hE := hE.trans hN1.ext
  replace hA := hA.ext hN1.ext
  have hB1 : Blk w1 _ _ [_, _, _] := hN1.blk
  refine WL_q rfl (ev_assign rfl) ?_
  refine WL_nil ?_
  refine thenE_n ?_
  refine W_seq ?_
  refine W_region ?_
  refine WL_q rfl (ev_assign rfl) ?_
  refine WL_nil ?_
  refine thenE_n ?_
  refine W_seq ?_
  refine W_region ?_
  refine WL_q rfl (ev_loads st25 sz25 rfl (cellsB hB1) rfl) ?_
  refine WL_q rfl (ev_move rfl) ?_
  refine WL_m rfl (ev_call rfl (szNetwork_spec _ A _ _ hA (by omega) hsA)) ?_
  rintro _ w16 ⟨r16, rfl, hE16, hr16⟩
  have hz16 := hE16.size
  replace hE := hE.trans hE16
  replace hA := hA.ext hE16
  replace hB1 := hB1.ext hE16
  refine WL_q rfl (ev_assign rfl) ?_
  refine WL_nil ?_
  refine thenE_n ?_
  refine W_seq ?_
  refine W_seq ?_
  refine W_region ?_
  refine WL_q rfl (ev_move rfl) ?_
  refine WL_q rfl (ev_lss rfl rfl) ?_
  refine WL_nil ?_
  refine thenE_n ?_
  refine W_cond rfl (fun hg18 => ?_) (fun hg18 => ?_)
  · have hp18 := of_decide_eq_true hg18
    refine W_seq ?_
    refine W_region ?_
    refine WL_q rfl (ev_assign rfl) ?_
    refine WL_nil ?_
    refine thenE_n ?_
    refine W_ret ?_
    refine thenE_r ?_
    refine ret1 rfl rfl ?_
    first | (exact ⟨rfl, hE⟩) | (exact (tfX hg18).elim) | (exact (decF hg18).elim) | (exfalso; omega)
  · have hp18 := of_decide_eq_false hg18
    refine W_skip ?_
    refine thenE_n ?_
    refine W_seq ?_
    refine W_region ?_
    refine WL_q rfl (ev_loads st25 sz25 rfl (cellsB hB1) rfl) ?_
    refine WL_m rfl (ev_call rfl (toNetwork_spec _ A _ hA (by omega) (by omega))) ?_
    rintro _ w21 ⟨h21, rfl, hF21, hE21⟩
    have hz21 := hE21.size
    replace hE := hE.trans hE21
    replace hA := hA.ext hE21
    replace hB1 := hB1.ext hE21
    have hN21 := hF21.is
    refine WL_m rfl (ev_call rfl (sMinimalBase_spec _ A _ hN21 (by omega) (by omega))) ?_
    rintro _ w22 ⟨h22, U22, q22, rfl, hr22, hN22, hl22, hE22⟩
    have hz22 := hE22.size
    replace hE := hE.trans hE22
    replace hA := hA.ext hE22
    replace hB1 := hB1.ext hE22
    replace hF21 := hF21.ext hE22
    replace hN21 := hN21.ext hE22
    refine WL_q rfl (ev_move rfl) ?_
    refine WL_q rfl (ev_extract rfl rfl) ?_
    refine WL_q rfl (ev_extract rfl rfl) ?_
    refine WL_m rfl (ev_alloc zr29) ?_
    rintro _ w4 ⟨rfl, hN4⟩
    have hz4 := hN4.size
    replace hE := hE.trans hN4.ext
    replace hA := hA.ext hN4.ext
    replace hB1 := hB1.ext hN4.ext
    replace hF21 := hF21.ext hN4.ext
    replace hN21 := hN21.ext hN4.ext
    replace hN22 := hN22.ext hN4.ext
    have hB4 : Blk w4 _ _ [_, _, _] := hN4.blk
    refine WL_s (ev_stores sz29 rfl rfl rfl (by simp [Value.oneCell']) hB4 (by simp)) ?_
    rintro _ w5_7 hS5_7
    have hz5_7 := hS5_7.size
    replace hE := hE.sto hS5_7 (by omega)
    replace hA := hA.sto hS5_7 (by omega)
    replace hB1 := hB1.sto hS5_7 (by omega)
    replace hF21 := hF21.sto hS5_7 (by omega)
    replace hN21 := hN21.sto hS5_7 (by omega)
    replace hN22 := hN22.sto hS5_7 (by omega)
    replace hB4 : Blk w5_7 _ _ [_, _, _] := hS5_7.blk
    refine WL_q rfl (ev_assign rfl) ?_
    refine WL_nil ?_
    refine thenE_n ?_
    refine W_seq ?_
    refine W_region ?_
    refine WL_q rfl (ev_loads st25 sz25 rfl (cellsB hB1) rfl) ?_
    refine WL_m rfl (ev_call rfl (toNetwork_spec _ A _ hA (by omega) (by omega))) ?_
    rintro _ w26 ⟨h26, rfl, hF26, hE26⟩
    have hz26 := hE26.size
    replace hE := hE.trans hE26
    replace hA := hA.ext hE26
    replace hB1 := hB1.ext hE26
    replace hF21 := hF21.ext hE26
    replace hN21 := hN21.ext hE26
    replace hN22 := hN22.ext hE26
    replace hB4 := hB4.ext hE26
    have hN26 := hF26.is
    refine WL_m rfl (ev_alloc zr29) ?_
    rintro _ w6 ⟨rfl, hN6⟩
    have hz6 := hN6.size
    replace hE := hE.trans hN6.ext
    replace hA := hA.ext hN6.ext
    replace hB1 := hB1.ext hN6.ext
    replace hF21 := hF21.ext hN6.ext
    replace hN21 := hN21.ext hN6.ext
    replace hN22 := hN22.ext hN6.ext
    replace hB4 := hB4.ext hN6.ext
    replace hF26 := hF26.ext hN6.ext
    replace hN26 := hN26.ext hN6.ext
    have hB6 : Blk w6 _ _ [_, _, _] := hN6.blk
    refine WL_s (ev_stores sz29 rfl rfl rfl (by simp [Value.oneCell']) hB6 (by simp)) ?_
    rintro _ w6_3 hS6_3
    have hz6_3 := hS6_3.size
    replace hE := hE.sto hS6_3 (by omega)
    replace hA := hA.sto hS6_3 (by omega)
    replace hB1 := hB1.sto hS6_3 (by omega)
    replace hF21 := hF21.sto hS6_3 (by omega)
    replace hN21 := hN21.sto hS6_3 (by omega)
    replace hN22 := hN22.sto hS6_3 (by omega)
    replace hB4 := hB4.sto hS6_3 (by omega)
    replace hF26 := hF26.sto hS6_3 (by omega)
    replace hN26 := hN26.sto hS6_3 (by omega)
    replace hB6 : Blk w6_3 _ _ [_, _, _] := hS6_3.blk
    refine WL_nil ?_
    refine thenE_n ?_
    refine W_seq ?_
    refine W_region ?_
    refine WL_q rfl (ev_loads st29 sz29 rfl (cellsB hB6) rfl) ?_
    refine WL_m rfl (ev_call rfl (MinimalBase_spec _ A _ hN26 (by omega) (by omega))) ?_
    rintro _ w29 ⟨h29, U29, q29, rfl, hr29, hO29, hl29, hE29⟩
    have hz29 := hE29.size
    replace hE := hE.trans hE29
    replace hA := hA.ext hE29
    replace hB1 := hB1.ext hE29
    replace hF21 := hF21.ext hE29
    replace hN21 := hN21.ext hE29
    replace hN22 := hN22.ext hE29
    replace hB4 := hB4.ext hE29
    replace hF26 := hF26.ext hE29
    replace hN26 := hN26.ext hE29
    replace hB6 := hB6.ext hE29
    refine WL_q rfl (ev_move rfl) ?_
    refine WL_q rfl (ev_extract rfl rfl) ?_
    refine WL_q rfl (ev_extract rfl rfl) ?_
    refine WL_m rfl (ev_alloc zr29) ?_
    rintro _ w7 ⟨rfl, hN7⟩
    have hz7 := hN7.size
    replace hE := hE.trans hN7.ext
    replace hA := hA.ext hN7.ext
    replace hB1 := hB1.ext hN7.ext
    replace hF21 := hF21.ext hN7.ext
    replace hN21 := hN21.ext hN7.ext
    replace hN22 := hN22.ext hN7.ext
    replace hB4 := hB4.ext hN7.ext
    replace hF26 := hF26.ext hN7.ext
    replace hN26 := hN26.ext hN7.ext
    replace hB6 := hB6.ext hN7.ext
    replace hO29 := hO29.ext hN7.ext
    have hB7 : Blk w7 _ _ [_, _, _] := hN7.blk
    refine WL_s (ev_stores sz29 rfl rfl rfl (by simp [Value.oneCell']) hB7 (by simp)) ?_
    rintro _ w7_6 hS7_6
    have hz7_6 := hS7_6.size
    replace hE := hE.sto hS7_6 (by omega)
    replace hA := hA.sto hS7_6 (by omega)
    replace hB1 := hB1.sto hS7_6 (by omega)
    replace hF21 := hF21.sto hS7_6 (by omega)
    replace hN21 := hN21.sto hS7_6 (by omega)
    replace hN22 := hN22.sto hS7_6 (by omega)
    replace hB4 := hB4.sto hS7_6 (by omega)
    replace hF26 := hF26.sto hS7_6 (by omega)
    replace hN26 := hN26.sto hS7_6 (by omega)
    replace hB6 := hB6.sto hS7_6 (by omega)
    replace hO29 := hO29.sto hS7_6 (by omega)
    replace hB7 : Blk w7_6 _ _ [_, _, _] := hS7_6.blk
    refine WL_q rfl (ev_assign rfl) ?_
    refine WL_nil ?_
    refine thenE_n ?_
    refine W_seq ?_
    refine W_seq ?_
    refine W_region ?_
    refine WL_q rfl (ev_loads st29 sz29 rfl (cellsB hB7) rfl) ?_
    refine WL_q rfl (ev_loads st29 sz29 rfl (cellsB hB4) rfl) ?_
    have eU34 := hr22.det1 hr29
    subst eU34
    refine WL_m rfl (ev_call rfl (eqNetwork_spec _ _ U22 _ hO29.is hN22 (by omega))) ?_
    rintro _ w34 ⟨rfl, hE34⟩
    have hz34 := hE34.size
    replace hE := hE.trans hE34
    replace hA := hA.ext hE34
    replace hB1 := hB1.ext hE34
    replace hF21 := hF21.ext hE34
    replace hN21 := hN21.ext hE34
    replace hN22 := hN22.ext hE34
    replace hB4 := hB4.ext hE34
    replace hF26 := hF26.ext hE34
    replace hN26 := hN26.ext hE34
    replace hB6 := hB6.ext hE34
    replace hO29 := hO29.ext hE34
    replace hB7 := hB7.ext hE34
    refine WL_q rfl (ev_not rfl) ?_
    refine WL_q rfl (ev_move rfl) ?_
    refine WL_splitv (t := 36) rfl (fun hg35 => ?_) (fun hg35 => ?_)
    · have hg34 := not_true hg35
      refine WL_no rfl rfl hg35 rfl ?_
      refine WL_no rfl rfl hg35 rfl ?_
      refine WL_no rfl rfl hg35 rfl ?_
      refine WL_q rfl (ev_pick_t rfl hg35 rfl) ?_
      refine WL_nil ?_
      refine thenE_n ?_
      refine W_cond_t rfl ?_
      refine W_seq ?_
      refine W_region ?_
      refine WL_q rfl (ev_assign rfl) ?_
      refine WL_nil ?_
      refine thenE_n ?_
      refine W_ret ?_
      refine thenE_r ?_
      refine ret1 rfl rfl ?_
      first | (exact ⟨rfl, hE⟩) | (exact (bneE hg34 (hr29.det1 hr22)).elim) | (exact absurd (hr29.det1 hr22) hp34) | (exact absurd (hr29.det1 hr22) (of_decide_eq_false hg34)) | (exact (bneE hg34 (hr29.det2 hr22)).elim) | (exact absurd (hr29.det2 hr22) hp34) | (exact absurd (hr29.det2 hr22) (of_decide_eq_false hg34)) | (exact (bneE hg34 (hr29.det3 hr22)).elim) | (exact absurd (hr29.det3 hr22) hp34) | (exact absurd (hr29.det3 hr22) (of_decide_eq_false hg34)) | (exact (tfX hg34).elim) | (exact (decF hg34).elim) | (exfalso; omega)
    · have hg34 := not_false hg35
      refine WL_qg rfl rfl hg35 rfl (ev_move rfl) ?_
      refine WL_qg rfl rfl hg35 rfl (ev_move rfl) ?_
      refine WL_qg rfl rfl hg35 rfl (ev_neq_b Try.underlying4 rfl rfl) ?_
      refine WL_q rfl (ev_pick_f rfl hg35 rfl) ?_
      refine WL_nil ?_
      refine thenE_n ?_
      refine W_cond rfl (fun hg39 => ?_) (fun hg39 => ?_)
      · refine W_seq ?_
        refine W_region ?_
        refine WL_q rfl (ev_assign rfl) ?_
        refine WL_nil ?_
        refine thenE_n ?_
        refine W_ret ?_
        refine thenE_r ?_
        refine ret1 rfl rfl ?_
        first | (exact ⟨rfl, hE⟩) | (exact (bneE hg39 (hr29.det1 hr22)).elim) | (exact absurd (hr29.det1 hr22) hp39) | (exact absurd (hr29.det1 hr22) (of_decide_eq_false hg39)) | (exact (bneE hg39 (hr29.det2 hr22)).elim) | (exact absurd (hr29.det2 hr22) hp39) | (exact absurd (hr29.det2 hr22) (of_decide_eq_false hg39)) | (exact (bneE hg39 (hr29.det3 hr22)).elim) | (exact absurd (hr29.det3 hr22) hp39) | (exact absurd (hr29.det3 hr22) (of_decide_eq_false hg39)) | (exact (tfX hg39).elim) | (exact (decF hg39).elim) | (exfalso; omega)
      · refine W_skip ?_
        refine thenE_n ?_
        refine W_seq ?_
        refine W_seq ?_
        refine W_drawE [(0, true), (1, true), (2, false), (3, false), (4, true)] mixed (by kernel_rfl) rfl (by kernel_rfl) ?_
        intro wd10 hEd10 hzd10
        replace hE := hE.trans hEd10
        replace hA := hA.ext hEd10
        replace hB1 := hB1.ext hEd10
        replace hF21 := hF21.ext hEd10
        replace hN21 := hN21.ext hEd10
        replace hN22 := hN22.ext hEd10
        replace hB4 := hB4.ext hEd10
        replace hF26 := hF26.ext hEd10
        replace hN26 := hN26.ext hEd10
        replace hB6 := hB6.ext hEd10
        replace hO29 := hO29.ext hEd10
        replace hB7 := hB7.ext hEd10
        have hDd10 := Ext.refl wd10
        refine PW_q rfl rfl (fun wq hq => ev_loads st29 sz29 rfl (cellsB (hq.blk hB6)) rfl) ?_
        refine PW_q rfl rfl (fun wq hq => ev_loads st25 sz25 rfl (cellsB (hq.blk hB1)) rfl) ?_
        refine PW_m rfl rfl (ev_call rfl (toNetwork_spec _ A _ hA (by omega) (by omega))) ?_
        rintro _ w43 ⟨h43, rfl, hF43, hE43⟩
        have hz43 := hE43.size
        replace hE := hE.trans hE43
        replace hDd10 := hDd10.trans hE43
        have hN43 := hF43.is
        refine ⟨hDd10, ?_⟩
        have hA_3 := hA.ext hDd10
        have hB1_3 := hB1.ext hDd10
        have hF21_3 := hF21.ext hDd10
        have hN21_3 := hN21.ext hDd10
        have hN22_3 := hN22.ext hDd10
        have hB4_3 := hB4.ext hDd10
        have hF26_3 := hF26.ext hDd10
        have hN26_3 := hN26.ext hDd10
        have hB6_3 := hB6.ext hDd10
        have hO29_3 := hO29.ext hDd10
        have hB7_3 := hB7.ext hDd10
        refine PW_m rfl rfl (ev_call rfl (eqNetwork_spec _ _ A _ hN26_3 hN43 (by omega))) ?_
        rintro _ w44 ⟨rfl, hE44⟩
        have hz44 := hE44.size
        replace hE := hE.trans hE44
        replace hDd10 := hDd10.trans hE44
        replace hF43 := hF43.ext hE44
        replace hN43 := hN43.ext hE44
        refine ⟨hDd10, ?_⟩
        refine PW_q rfl rfl (fun wq hq => ev_not rfl) ?_
        replace hA := hA.ext hDd10
        replace hB1 := hB1.ext hDd10
        replace hF21 := hF21.ext hDd10
        replace hN21 := hN21.ext hDd10
        replace hN22 := hN22.ext hDd10
        replace hB4 := hB4.ext hDd10
        replace hF26 := hF26.ext hDd10
        replace hN26 := hN26.ext hDd10
        replace hB6 := hB6.ext hDd10
        replace hO29 := hO29.ext hDd10
        replace hB7 := hB7.ext hDd10
        refine PW_nil ?_
        refine thenE_n ?_
        refine W_cond rfl (fun hg45 => ?_) (fun hg45 => ?_)
        · have hg44 := not_true hg45
          refine W_seq ?_
          refine W_region ?_
          refine WL_q rfl (ev_assign rfl) ?_
          refine WL_nil ?_
          refine thenE_n ?_
          refine W_ret ?_
          refine thenE_r ?_
          refine ret1 rfl rfl ?_
          first | (exact ⟨rfl, hE⟩) | (exact (bneE hg44 (hr29.det1 hr22)).elim) | (exact absurd (hr29.det1 hr22) hp44) | (exact absurd (hr29.det1 hr22) (of_decide_eq_false hg44)) | (exact (bneE hg44 (hr29.det2 hr22)).elim) | (exact absurd (hr29.det2 hr22) hp44) | (exact absurd (hr29.det2 hr22) (of_decide_eq_false hg44)) | (exact (bneE hg44 (hr29.det3 hr22)).elim) | (exact absurd (hr29.det3 hr22) hp44) | (exact absurd (hr29.det3 hr22) (of_decide_eq_false hg44)) | (exact (tfX hg44).elim) | (exact (decF hg44).elim) | (exfalso; omega)
        · have hg44 := not_false hg45
          refine W_skip ?_
          refine thenE_n ?_
          refine W_seq ?_
          refine W_region ?_
          refine WL_q rfl (ev_assign rfl) ?_
          refine WL_nil ?_
          refine thenE_n ?_
          refine W_seq ?_
          refine W_region ?_
          refine WL_q rfl (ev_loads st29 sz29 rfl (cellsB hB6) rfl) ?_
          refine WL_q rfl (ev_move rfl) ?_
          refine WL_m rfl (ev_call rfl (markNetwork_spec _ A _ _ hF26 (by omega) (by omega) (by omega))) ?_
          rintro _ w48 ⟨r48, rfl, hr48, hK48⟩
          have hz48 := hK48.size
          replace hE := hE.mrk hK48 (by omega)
          replace hA := hA.mrk hK48 (by omega)
          replace hB1 := hB1.mrk hK48 (by omega)
          replace hF21 := hF21.mrk hK48 (by omega)
          replace hN21 := hN21.mrk hK48 (by omega)
          replace hN22 := hN22.mrk hK48 (by omega)
          replace hB4 := hB4.mrk hK48 (by omega)
          replace hB6 := hB6.mrk hK48 (by omega)
          replace hO29 := hO29.mrk hK48 (by omega)
          replace hB7 := hB7.mrk hK48 (by omega)
          replace hF43 := hF43.mrk hK48 (by omega)
          replace hN43 := hN43.mrk hK48 (by omega)
          refine WL_q rfl (ev_assign rfl) ?_
          refine WL_nil ?_
          refine thenE_n ?_
          refine W_seq ?_
          refine W_seq ?_
          refine W_region ?_
          refine WL_q rfl (ev_move rfl) ?_
          refine WL_q rfl (ev_lss rfl rfl) ?_
          refine WL_q rfl (ev_move rfl) ?_
          refine WL_splitv (t := 51) rfl (fun hg50 => ?_) (fun hg50 => ?_)
          · have hp50 := of_decide_eq_true hg50
            refine WL_no rfl rfl hg50 rfl ?_
            refine WL_no rfl rfl hg50 rfl ?_
            refine WL_no rfl rfl hg50 rfl ?_
            refine WL_no rfl rfl hg50 rfl ?_
            refine WL_q rfl (ev_pick_t rfl hg50 rfl) ?_
            refine WL_q rfl (ev_move rfl) ?_
            refine WL_no rfl rfl rfl rfl ?_
            refine WL_no rfl rfl rfl rfl ?_
            refine WL_no rfl rfl rfl rfl ?_
            refine WL_q rfl (ev_pick_t rfl rfl rfl) ?_
            refine WL_nil ?_
            refine thenE_n ?_
            refine W_cond_t rfl ?_
            refine W_seq ?_
            refine W_region ?_
            refine WL_q rfl (ev_assign rfl) ?_
            refine WL_nil ?_
            refine thenE_n ?_
            refine W_ret ?_
            refine thenE_r ?_
            refine ret1 rfl rfl ?_
            first | (exact ⟨rfl, hE⟩) | (exact (bneE hg50 (hr29.det1 hr22)).elim) | (exact absurd (hr29.det1 hr22) hp50) | (exact absurd (hr29.det1 hr22) (of_decide_eq_false hg50)) | (exact (bneE hg50 (hr29.det2 hr22)).elim) | (exact absurd (hr29.det2 hr22) hp50) | (exact absurd (hr29.det2 hr22) (of_decide_eq_false hg50)) | (exact (bneE hg50 (hr29.det3 hr22)).elim) | (exact absurd (hr29.det3 hr22) hp50) | (exact absurd (hr29.det3 hr22) (of_decide_eq_false hg50)) | (exact (tfX hg50).elim) | (exact (decF hg50).elim) | (exfalso; omega)
          · have hp50 := of_decide_eq_false hg50
            refine WL_qg rfl rfl hg50 rfl (ev_loads st29 sz29 rfl (cellsB hB7) rfl) ?_
            refine WL_qg rfl rfl hg50 rfl (ev_loads st29 sz29 rfl (cellsB hB4) rfl) ?_
            refine WL_mg rfl rfl hg50 rfl (ev_call rfl (eqNetwork_spec _ _ U22 _ hO29.is hN22 (by omega))) ?_
            rintro _ w54 ⟨rfl, hE54⟩
            have hz54 := hE54.size
            replace hE := hE.trans hE54
            replace hA := hA.ext hE54
            replace hB1 := hB1.ext hE54
            replace hF21 := hF21.ext hE54
            replace hN21 := hN21.ext hE54
            replace hN22 := hN22.ext hE54
            replace hB4 := hB4.ext hE54
            replace hB6 := hB6.ext hE54
            replace hO29 := hO29.ext hE54
            replace hB7 := hB7.ext hE54
            replace hF43 := hF43.ext hE54
            replace hN43 := hN43.ext hE54
            refine WL_qg rfl rfl hg50 rfl (ev_not rfl) ?_
            refine WL_q rfl (ev_pick_f rfl hg50 rfl) ?_
            refine WL_q rfl (ev_move rfl) ?_
            refine WL_splitv (t := 57) rfl (fun hg55 => ?_) (fun hg55 => ?_)
            · have hg54 := not_true hg55
              refine WL_no rfl rfl hg55 rfl ?_
              refine WL_no rfl rfl hg55 rfl ?_
              refine WL_no rfl rfl hg55 rfl ?_
              refine WL_q rfl (ev_pick_t rfl hg55 rfl) ?_
              refine WL_nil ?_
              refine thenE_n ?_
              refine W_cond_t rfl ?_
              refine W_seq ?_
              refine W_region ?_
              refine WL_q rfl (ev_assign rfl) ?_
              refine WL_nil ?_
              refine thenE_n ?_
              refine W_ret ?_
              refine thenE_r ?_
              refine ret1 rfl rfl ?_
              first | (exact ⟨rfl, hE⟩) | (exact (bneE hg54 (hr29.det1 hr22)).elim) | (exact absurd (hr29.det1 hr22) hp54) | (exact absurd (hr29.det1 hr22) (of_decide_eq_false hg54)) | (exact (bneE hg54 (hr29.det2 hr22)).elim) | (exact absurd (hr29.det2 hr22) hp54) | (exact absurd (hr29.det2 hr22) (of_decide_eq_false hg54)) | (exact (bneE hg54 (hr29.det3 hr22)).elim) | (exact absurd (hr29.det3 hr22) hp54) | (exact absurd (hr29.det3 hr22) (of_decide_eq_false hg54)) | (exact (tfX hg54).elim) | (exact (decF hg54).elim) | (exfalso; omega)
            · have hg54 := not_false hg55
              refine WL_qg rfl rfl hg55 rfl (ev_move rfl) ?_
              refine WL_qg rfl rfl hg55 rfl (ev_move rfl) ?_
              refine WL_qg rfl rfl hg55 rfl (ev_neq_b Try.underlying4 rfl rfl) ?_
              refine WL_q rfl (ev_pick_f rfl hg55 rfl) ?_
              refine WL_nil ?_
              refine thenE_n ?_
              refine W_cond rfl (fun hg60 => ?_) (fun hg60 => ?_)
              · refine W_seq ?_
                refine W_region ?_
                refine WL_q rfl (ev_assign rfl) ?_
                refine WL_nil ?_
                refine thenE_n ?_
                refine W_ret ?_
                refine thenE_r ?_
                refine ret1 rfl rfl ?_
                first | (exact ⟨rfl, hE⟩) | (exact (bneE hg60 (hr29.det1 hr22)).elim) | (exact absurd (hr29.det1 hr22) hp60) | (exact absurd (hr29.det1 hr22) (of_decide_eq_false hg60)) | (exact (bneE hg60 (hr29.det2 hr22)).elim) | (exact absurd (hr29.det2 hr22) hp60) | (exact absurd (hr29.det2 hr22) (of_decide_eq_false hg60)) | (exact (bneE hg60 (hr29.det3 hr22)).elim) | (exact absurd (hr29.det3 hr22) hp60) | (exact absurd (hr29.det3 hr22) (of_decide_eq_false hg60)) | (exact (tfX hg60).elim) | (exact (decF hg60).elim) | (exfalso; omega)
              · refine W_skip ?_
                refine thenE_n ?_
                refine W_seq ?_
                refine W_region ?_
                refine WL_q rfl (ev_assign rfl) ?_
                refine WL_nil ?_
                refine thenE_n ?_
                refine W_seq ?_
                refine W_region ?_
                refine WL_q rfl (ev_loads st29 sz29 rfl (cellsB hB7) rfl) ?_
                refine WL_q rfl (ev_move rfl) ?_
                refine WL_m rfl (ev_call rfl (markNetwork_net _ U22 _ _ hO29 (by omega) (by omega) (by omega))) ?_
                rintro _ w64 ⟨rfl, hO64, hK64⟩
                have hz64 := hK64.size
                have hR64 := hK64
                replace hE := hE.rg hR64 (by omega)
                replace hA := hA.rg hR64 (by omega)
                replace hB1 := hB1.rg hR64 (by omega)
                replace hF21 := hF21.rg hR64 (by omega)
                replace hN21 := hN21.rg hR64 (by omega)
                replace hN22 := hN22.rg hR64 (by omega)
                replace hB4 := hB4.rg hR64 (by omega)
                replace hB6 := hB6.rg hR64 (by omega)
                replace hB7 := hB7.rg hR64 (by omega)
                replace hF43 := hF43.rg hR64 (by omega)
                replace hN43 := hN43.rg hR64 (by omega)
                replace hO29 := hO64
                have hmk : 1 ≤ mkT 1 U22 := by unfold mkT; omega
                refine WL_q rfl (ev_assign rfl) ?_
                refine WL_nil ?_
                refine thenE_n ?_
                refine W_seq ?_
                refine W_region ?_
                refine WL_q rfl (ev_assign rfl) ?_
                refine WL_nil ?_
                refine thenE_n ?_
                refine W_seq ?_
                refine W_region ?_
                refine WL_q rfl (ev_loads st29 sz29 rfl (cellsB hB7) rfl) ?_
                refine WL_q rfl (ev_move rfl) ?_
                refine WL_m rfl (ev_call rfl (heldNetwork_net _ U22 _ _ hO29.is (by omega) (by omega))) ?_
                rintro _ w67 ⟨rfl, hE67⟩
                have hz67 := hE67.size
                replace hE := hE.trans hE67
                replace hA := hA.ext hE67
                replace hB1 := hB1.ext hE67
                replace hF21 := hF21.ext hE67
                replace hN21 := hN21.ext hE67
                replace hN22 := hN22.ext hE67
                replace hB4 := hB4.ext hE67
                replace hB6 := hB6.ext hE67
                replace hO29 := hO29.ext hE67
                replace hB7 := hB7.ext hE67
                replace hF43 := hF43.ext hE67
                replace hN43 := hN43.ext hE67
                refine WL_q rfl (ev_assign rfl) ?_
                refine WL_nil ?_
                refine thenE_n ?_
                refine W_seq ?_
                refine W_seq ?_
                refine W_region ?_
                refine WL_q rfl (ev_move rfl) ?_
                refine WL_q rfl (ev_lss rfl rfl) ?_
                refine WL_nil ?_
                refine thenE_n ?_
                refine W_cond rfl (fun hg69 => ?_) (fun hg69 => ?_)
                · have hp69 := of_decide_eq_true hg69
                  refine W_seq ?_
                  refine W_region ?_
                  refine WL_q rfl (ev_assign rfl) ?_
                  refine WL_nil ?_
                  refine thenE_n ?_
                  refine W_ret ?_
                  refine thenE_r ?_
                  refine ret1 rfl rfl ?_
                  first | (exact ⟨rfl, hE⟩) | (exact (bneE hg69 (hr29.det1 hr22)).elim) | (exact absurd (hr29.det1 hr22) hp69) | (exact absurd (hr29.det1 hr22) (of_decide_eq_false hg69)) | (exact (bneE hg69 (hr29.det2 hr22)).elim) | (exact absurd (hr29.det2 hr22) hp69) | (exact absurd (hr29.det2 hr22) (of_decide_eq_false hg69)) | (exact (bneE hg69 (hr29.det3 hr22)).elim) | (exact absurd (hr29.det3 hr22) hp69) | (exact absurd (hr29.det3 hr22) (of_decide_eq_false hg69)) | (exact (tfX hg69).elim) | (exact (decF hg69).elim) | (exfalso; omega)
                · have hp69 := of_decide_eq_false hg69
                  refine W_skip ?_
                  refine thenE_n ?_
                  refine W_seq ?_
                  refine W_seq ?_
                  refine W_region ?_
                  refine WL_q rfl (ev_move rfl) ?_
                  refine WL_q rfl (ev_move rfl) ?_
                  refine WL_q rfl (ev_neq rfl rfl) ?_
                  refine WL_nil ?_
                  refine thenE_n ?_
                  refine W_cond rfl (fun hg72 => ?_) (fun hg72 => ?_)
                  · have hp72 := of_decide_eq_true hg72
                    refine W_seq ?_
                    refine W_region ?_
                    refine WL_q rfl (ev_assign rfl) ?_
                    refine WL_nil ?_
                    refine thenE_n ?_
                    refine W_ret ?_
                    refine thenE_r ?_
                    refine ret1 rfl rfl ?_
                    first | (exact ⟨rfl, hE⟩) | (exact (bneE hg72 (hr29.det1 hr22)).elim) | (exact absurd (hr29.det1 hr22) hp72) | (exact absurd (hr29.det1 hr22) (of_decide_eq_false hg72)) | (exact (bneE hg72 (hr29.det2 hr22)).elim) | (exact absurd (hr29.det2 hr22) hp72) | (exact absurd (hr29.det2 hr22) (of_decide_eq_false hg72)) | (exact (bneE hg72 (hr29.det3 hr22)).elim) | (exact absurd (hr29.det3 hr22) hp72) | (exact absurd (hr29.det3 hr22) (of_decide_eq_false hg72)) | (exact (tfX hg72).elim) | (exact (decF hg72).elim) | (exfalso; omega)
                  · have hp72 := of_decide_eq_false hg72
                    refine W_skip ?_
                    refine thenE_n ?_
                    refine W_seq ?_
                    refine W_region ?_
                    refine WL_q rfl (ev_loads st25 sz25 rfl (cellsB hB1) rfl) ?_
                    refine WL_m rfl (ev_call rfl (toNetwork_spec _ A _ hA (by omega) (by omega))) ?_
                    rintro _ w75 ⟨h75, rfl, hF75, hE75⟩
                    have hz75 := hE75.size
                    replace hE := hE.trans hE75
                    replace hA := hA.ext hE75
                    replace hB1 := hB1.ext hE75
                    replace hF21 := hF21.ext hE75
                    replace hN21 := hN21.ext hE75
                    replace hN22 := hN22.ext hE75
                    replace hB4 := hB4.ext hE75
                    replace hB6 := hB6.ext hE75
                    replace hO29 := hO29.ext hE75
                    replace hB7 := hB7.ext hE75
                    replace hF43 := hF43.ext hE75
                    replace hN43 := hN43.ext hE75
                    have hN75 := hF75.is
                    refine WL_m rfl (ev_call rfl (MinimalBase_spec _ A _ hN75 (by omega) (by omega))) ?_
                    rintro _ w76 ⟨h76, U76, q76, rfl, hr76, hO76, hl76, hE76⟩
                    have hz76 := hE76.size
                    replace hE := hE.trans hE76
                    replace hA := hA.ext hE76
                    replace hB1 := hB1.ext hE76
                    replace hF21 := hF21.ext hE76
                    replace hN21 := hN21.ext hE76
                    replace hN22 := hN22.ext hE76
                    replace hB4 := hB4.ext hE76
                    replace hB6 := hB6.ext hE76
                    replace hO29 := hO29.ext hE76
                    replace hB7 := hB7.ext hE76
                    replace hF43 := hF43.ext hE76
                    replace hN43 := hN43.ext hE76
                    replace hF75 := hF75.ext hE76
                    replace hN75 := hN75.ext hE76
                    refine WL_q rfl (ev_move rfl) ?_
                    refine WL_q rfl (ev_extract rfl rfl) ?_
                    refine WL_q rfl (ev_extract rfl rfl) ?_
                    refine WL_m rfl (ev_alloc zr29) ?_
                    rintro _ w12 ⟨rfl, hN12⟩
                    have hz12 := hN12.size
                    replace hE := hE.trans hN12.ext
                    replace hA := hA.ext hN12.ext
                    replace hB1 := hB1.ext hN12.ext
                    replace hF21 := hF21.ext hN12.ext
                    replace hN21 := hN21.ext hN12.ext
                    replace hN22 := hN22.ext hN12.ext
                    replace hB4 := hB4.ext hN12.ext
                    replace hB6 := hB6.ext hN12.ext
                    replace hO29 := hO29.ext hN12.ext
                    replace hB7 := hB7.ext hN12.ext
                    replace hF43 := hF43.ext hN12.ext
                    replace hN43 := hN43.ext hN12.ext
                    replace hF75 := hF75.ext hN12.ext
                    replace hN75 := hN75.ext hN12.ext
                    replace hO76 := hO76.ext hN12.ext
                    have hB12 : Blk w12 _ _ [_, _, _] := hN12.blk
                    refine WL_s (ev_stores sz29 rfl rfl rfl (by simp [Value.oneCell']) hB12 (by simp)) ?_
                    rintro _ w24_7 hS24_7
                    have hz24_7 := hS24_7.size
                    replace hE := hE.sto hS24_7 (by omega)
                    replace hA := hA.sto hS24_7 (by omega)
                    replace hB1 := hB1.sto hS24_7 (by omega)
                    replace hF21 := hF21.sto hS24_7 (by omega)
                    replace hN21 := hN21.sto hS24_7 (by omega)
                    replace hN22 := hN22.sto hS24_7 (by omega)
                    replace hB4 := hB4.sto hS24_7 (by omega)
                    replace hB6 := hB6.sto hS24_7 (by omega)
                    replace hO29 := hO29.sto hS24_7 (by omega)
                    replace hB7 := hB7.sto hS24_7 (by omega)
                    replace hF43 := hF43.sto hS24_7 (by omega)
                    replace hN43 := hN43.sto hS24_7 (by omega)
                    replace hF75 := hF75.sto hS24_7 (by omega)
                    replace hN75 := hN75.sto hS24_7 (by omega)
                    replace hO76 := hO76.sto hS24_7 (by omega)
                    replace hB12 : Blk w24_7 _ _ [_, _, _] := hS24_7.blk
                    refine WL_q rfl (ev_assign rfl) ?_
                    refine WL_nil ?_
                    refine thenE_n ?_
                    refine W_seq ?_
                    refine W_seq ?_
                    refine W_region ?_
                    refine WL_q rfl (ev_loads st29 sz29 rfl (cellsB hB12) rfl) ?_
                    refine WL_q rfl (ev_loads st29 sz29 rfl (cellsB hB4) rfl) ?_
                    have eU81 := hr22.det1 hr76
                    subst eU81
                    refine WL_m rfl (ev_call rfl (eqNetwork_spec _ _ U22 _ hO76.is hN22 (by omega))) ?_
                    rintro _ w81 ⟨rfl, hE81⟩
                    have hz81 := hE81.size
                    replace hE := hE.trans hE81
                    replace hA := hA.ext hE81
                    replace hB1 := hB1.ext hE81
                    replace hF21 := hF21.ext hE81
                    replace hN21 := hN21.ext hE81
                    replace hN22 := hN22.ext hE81
                    replace hB4 := hB4.ext hE81
                    replace hB6 := hB6.ext hE81
                    replace hO29 := hO29.ext hE81
                    replace hB7 := hB7.ext hE81
                    replace hF43 := hF43.ext hE81
                    replace hN43 := hN43.ext hE81
                    replace hF75 := hF75.ext hE81
                    replace hN75 := hN75.ext hE81
                    replace hO76 := hO76.ext hE81
                    replace hB12 := hB12.ext hE81
                    refine WL_q rfl (ev_not rfl) ?_
                    refine WL_q rfl (ev_move rfl) ?_
                    refine WL_splitv (t := 83) rfl (fun hg82 => ?_) (fun hg82 => ?_)
                    · have hg81 := not_true hg82
                      refine WL_no rfl rfl hg82 rfl ?_
                      refine WL_no rfl rfl hg82 rfl ?_
                      refine WL_no rfl rfl hg82 rfl ?_
                      refine WL_q rfl (ev_pick_t rfl hg82 rfl) ?_
                      refine WL_nil ?_
                      refine thenE_n ?_
                      refine W_cond_t rfl ?_
                      refine W_seq ?_
                      refine W_region ?_
                      refine WL_q rfl (ev_assign rfl) ?_
                      refine WL_nil ?_
                      refine thenE_n ?_
                      refine W_ret ?_
                      refine thenE_r ?_
                      refine ret1 rfl rfl ?_
                      first | (exact ⟨rfl, hE⟩) | (exact (bneE hg81 (hr76.det1 hr22)).elim) | (exact absurd (hr76.det1 hr22) hp81) | (exact absurd (hr76.det1 hr22) (of_decide_eq_false hg81)) | (exact (bneE hg81 (hr76.det2 hr22)).elim) | (exact absurd (hr76.det2 hr22) hp81) | (exact absurd (hr76.det2 hr22) (of_decide_eq_false hg81)) | (exact (bneE hg81 (hr76.det3 hr22)).elim) | (exact absurd (hr76.det3 hr22) hp81) | (exact absurd (hr76.det3 hr22) (of_decide_eq_false hg81)) | (exact (bneE hg81 (hr29.det1 hr22)).elim) | (exact absurd (hr29.det1 hr22) hp81) | (exact absurd (hr29.det1 hr22) (of_decide_eq_false hg81)) | (exact (bneE hg81 (hr29.det2 hr22)).elim) | (exact absurd (hr29.det2 hr22) hp81) | (exact absurd (hr29.det2 hr22) (of_decide_eq_false hg81)) | (exact (bneE hg81 (hr29.det3 hr22)).elim) | (exact absurd (hr29.det3 hr22) hp81) | (exact absurd (hr29.det3 hr22) (of_decide_eq_false hg81)) | (exact (tfX hg81).elim) | (exact (decF hg81).elim) | (exfalso; omega)
                    · have hg81 := not_false hg82
                      refine WL_qg rfl rfl hg82 rfl (ev_move rfl) ?_
                      refine WL_qg rfl rfl hg82 rfl (ev_move rfl) ?_
                      refine WL_qg rfl rfl hg82 rfl (ev_neq_b Try.underlying4 rfl rfl) ?_
                      refine WL_q rfl (ev_pick_f rfl hg82 rfl) ?_
                      refine WL_nil ?_
                      refine thenE_n ?_
                      refine W_cond rfl (fun hg86 => ?_) (fun hg86 => ?_)
                      · refine W_seq ?_
                        refine W_region ?_
                        refine WL_q rfl (ev_assign rfl) ?_
                        refine WL_nil ?_
                        refine thenE_n ?_
                        refine W_ret ?_
                        refine thenE_r ?_
                        refine ret1 rfl rfl ?_
                        first | (exact ⟨rfl, hE⟩) | (exact (bneE hg86 (hr76.det1 hr22)).elim) | (exact absurd (hr76.det1 hr22) hp86) | (exact absurd (hr76.det1 hr22) (of_decide_eq_false hg86)) | (exact (bneE hg86 (hr76.det2 hr22)).elim) | (exact absurd (hr76.det2 hr22) hp86) | (exact absurd (hr76.det2 hr22) (of_decide_eq_false hg86)) | (exact (bneE hg86 (hr76.det3 hr22)).elim) | (exact absurd (hr76.det3 hr22) hp86) | (exact absurd (hr76.det3 hr22) (of_decide_eq_false hg86)) | (exact (bneE hg86 (hr29.det1 hr22)).elim) | (exact absurd (hr29.det1 hr22) hp86) | (exact absurd (hr29.det1 hr22) (of_decide_eq_false hg86)) | (exact (bneE hg86 (hr29.det2 hr22)).elim) | (exact absurd (hr29.det2 hr22) hp86) | (exact absurd (hr29.det2 hr22) (of_decide_eq_false hg86)) | (exact (bneE hg86 (hr29.det3 hr22)).elim) | (exact absurd (hr29.det3 hr22) hp86) | (exact absurd (hr29.det3 hr22) (of_decide_eq_false hg86)) | (exact (tfX hg86).elim) | (exact (decF hg86).elim) | (exfalso; omega)
                      · refine W_skip ?_
                        refine thenE_n ?_
                        refine W_seq ?_
                        refine W_region ?_
                        refine WL_q rfl (ev_assign rfl) ?_
                        refine WL_nil ?_
                        refine thenE_n ?_
                        refine W_seq ?_
                        refine W_region ?_
                        refine WL_q rfl (ev_loads st29 sz29 rfl (cellsB hB7) rfl) ?_
                        refine WL_q rfl (ev_move rfl) ?_
                        refine WL_m rfl (ev_call rfl (heldNetwork_net _ U22 _ _ hO29.is (by omega) (by omega))) ?_
                        rintro _ w90 ⟨rfl, hE90⟩
                        have hz90 := hE90.size
                        replace hE := hE.trans hE90
                        replace hA := hA.ext hE90
                        replace hB1 := hB1.ext hE90
                        replace hF21 := hF21.ext hE90
                        replace hN21 := hN21.ext hE90
                        replace hN22 := hN22.ext hE90
                        replace hB4 := hB4.ext hE90
                        replace hB6 := hB6.ext hE90
                        replace hO29 := hO29.ext hE90
                        replace hB7 := hB7.ext hE90
                        replace hF43 := hF43.ext hE90
                        replace hN43 := hN43.ext hE90
                        replace hF75 := hF75.ext hE90
                        replace hN75 := hN75.ext hE90
                        replace hO76 := hO76.ext hE90
                        replace hB12 := hB12.ext hE90
                        refine WL_q rfl (ev_assign rfl) ?_
                        refine WL_nil ?_
                        refine thenE_n ?_
                        refine W_seq ?_
                        refine W_seq ?_
                        refine W_region ?_
                        refine WL_q rfl (ev_move rfl) ?_
                        refine WL_q rfl (ev_lss rfl rfl) ?_
                        refine WL_nil ?_
                        refine thenE_n ?_
                        refine W_cond rfl (fun hg92 => ?_) (fun hg92 => ?_)
                        · have hp92 := of_decide_eq_true hg92
                          refine W_seq ?_
                          refine W_region ?_
                          refine WL_q rfl (ev_assign rfl) ?_
                          refine WL_nil ?_
                          refine thenE_n ?_
                          refine W_ret ?_
                          refine thenE_r ?_
                          refine ret1 rfl rfl ?_
                          first | (exact ⟨rfl, hE⟩) | (exact (bneE hg92 (hr76.det1 hr22)).elim) | (exact absurd (hr76.det1 hr22) hp92) | (exact absurd (hr76.det1 hr22) (of_decide_eq_false hg92)) | (exact (bneE hg92 (hr76.det2 hr22)).elim) | (exact absurd (hr76.det2 hr22) hp92) | (exact absurd (hr76.det2 hr22) (of_decide_eq_false hg92)) | (exact (bneE hg92 (hr76.det3 hr22)).elim) | (exact absurd (hr76.det3 hr22) hp92) | (exact absurd (hr76.det3 hr22) (of_decide_eq_false hg92)) | (exact (bneE hg92 (hr29.det1 hr22)).elim) | (exact absurd (hr29.det1 hr22) hp92) | (exact absurd (hr29.det1 hr22) (of_decide_eq_false hg92)) | (exact (bneE hg92 (hr29.det2 hr22)).elim) | (exact absurd (hr29.det2 hr22) hp92) | (exact absurd (hr29.det2 hr22) (of_decide_eq_false hg92)) | (exact (bneE hg92 (hr29.det3 hr22)).elim) | (exact absurd (hr29.det3 hr22) hp92) | (exact absurd (hr29.det3 hr22) (of_decide_eq_false hg92)) | (exact (tfX hg92).elim) | (exact (decF hg92).elim) | (exfalso; omega)
                        · have hp92 := of_decide_eq_false hg92
                          refine W_skip ?_
                          refine thenE_n ?_
                          refine W_seq ?_
                          refine W_seq ?_
                          refine W_region ?_
                          refine WL_q rfl (ev_move rfl) ?_
                          refine WL_q rfl (ev_move rfl) ?_
                          refine WL_q rfl (ev_neq rfl rfl) ?_
                          refine WL_nil ?_
                          refine thenE_n ?_
                          refine W_cond rfl (fun hg95 => ?_) (fun hg95 => ?_)
                          · have hp95 := of_decide_eq_true hg95
                            refine W_seq ?_
                            refine W_region ?_
                            refine WL_q rfl (ev_assign rfl) ?_
                            refine WL_nil ?_
                            refine thenE_n ?_
                            refine W_ret ?_
                            refine thenE_r ?_
                            refine ret1 rfl rfl ?_
                            first | (exact ⟨rfl, hE⟩) | (exact (bneE hg95 (hr76.det1 hr22)).elim) | (exact absurd (hr76.det1 hr22) hp95) | (exact absurd (hr76.det1 hr22) (of_decide_eq_false hg95)) | (exact (bneE hg95 (hr76.det2 hr22)).elim) | (exact absurd (hr76.det2 hr22) hp95) | (exact absurd (hr76.det2 hr22) (of_decide_eq_false hg95)) | (exact (bneE hg95 (hr76.det3 hr22)).elim) | (exact absurd (hr76.det3 hr22) hp95) | (exact absurd (hr76.det3 hr22) (of_decide_eq_false hg95)) | (exact (bneE hg95 (hr29.det1 hr22)).elim) | (exact absurd (hr29.det1 hr22) hp95) | (exact absurd (hr29.det1 hr22) (of_decide_eq_false hg95)) | (exact (bneE hg95 (hr29.det2 hr22)).elim) | (exact absurd (hr29.det2 hr22) hp95) | (exact absurd (hr29.det2 hr22) (of_decide_eq_false hg95)) | (exact (bneE hg95 (hr29.det3 hr22)).elim) | (exact absurd (hr29.det3 hr22) hp95) | (exact absurd (hr29.det3 hr22) (of_decide_eq_false hg95)) | (exact (tfX hg95).elim) | (exact (decF hg95).elim) | (exfalso; omega)
                          · have hp95 := of_decide_eq_false hg95
                            refine W_skip ?_
                            refine thenE_n ?_
                            refine W_seq ?_
                            refine W_region ?_
                            refine WL_q rfl (ev_assign rfl) ?_
                            refine WL_nil ?_
                            refine thenE_n ?_
                            refine W_ret ?_
                            refine ret1 rfl rfl ?_
                            first | (exact ⟨rfl, hE⟩) | (exact (bneE hg95 (hr76.det1 hr22)).elim) | (exact absurd (hr76.det1 hr22) hp95) | (exact absurd (hr76.det1 hr22) (of_decide_eq_false hg95)) | (exact (bneE hg95 (hr76.det2 hr22)).elim) | (exact absurd (hr76.det2 hr22) hp95) | (exact absurd (hr76.det2 hr22) (of_decide_eq_false hg95)) | (exact (bneE hg95 (hr76.det3 hr22)).elim) | (exact absurd (hr76.det3 hr22) hp95) | (exact absurd (hr76.det3 hr22) (of_decide_eq_false hg95)) | (exact (bneE hg95 (hr29.det1 hr22)).elim) | (exact absurd (hr29.det1 hr22) hp95) | (exact absurd (hr29.det1 hr22) (of_decide_eq_false hg95)) | (exact (bneE hg95 (hr29.det2 hr22)).elim) | (exact absurd (hr29.det2 hr22) hp95) | (exact absurd (hr29.det2 hr22) (of_decide_eq_false hg95)) | (exact (bneE hg95 (hr29.det3 hr22)).elim) | (exact absurd (hr29.det3 hr22) hp95) | (exact absurd (hr29.det3 hr22) (of_decide_eq_false hg95)) | (exact (tfX hg95).elim) | (exact (decF hg95).elim) | (exfalso; omega)

end Go.Proofs.Ytmdmpapdjgcchaa
