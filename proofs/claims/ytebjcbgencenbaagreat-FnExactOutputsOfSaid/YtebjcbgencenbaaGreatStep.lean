/- Contracts of one round of a machine on a network, of the program and of the reference; the walk of FnExactStepMachine. -/
import Derived.Test.YtebjcbgencenbaaGreatRun
import Derived.Test.YtebjcbgencenbaaGreatOrows
import Derived.Test.YtebjcbgencenbaaGreatRowsH
namespace Go.Proofs.YtebjcbgencenbaaGreat
open Go Go.RowKit

/-- What comes in over a port. -/
def msg (m : Mach) (S : List Int) (p : Int × Int) : Int := (m.send.getD (S.getD p.1.toNat 0).toNat []).getD p.2.toNat 0
/-- What comes in at a node. -/
def inbox (m : Mach) (A : Net) (S : List Int) (v : Nat) : List Int := (A.ends.getD v []).map (msg m S)
noncomputable def cls (m : Mach) (A : Net) (S : List Int) (v : Nat) : Int := idxF (cfit (S.getD v 0) (inbox m A S v)) m.clauses
open Classical in
noncomputable def nxt (m : Mach) (A : Net) (S : List Int) (v : Nat) : Int := if 0 ≤ cls m A S v ∧ m.output.getD (S.getD v 0).toNat 0 < 0 then (m.clauses.getD (cls m A S v).toNat (0, [], 0)).2.2 else S.getD v 0
/-- The states after one round. -/
noncomputable def stepS (m : Mach) (A : Net) (S : List Int) : List Int := (List.range A.ends.length).map (nxt m A S)
theorem stepS_len (m : Mach) (A : Net) (S : List Int) : (stepS m A S).length = A.ends.length := by simp [stepS]
theorem stp_yes {m : Mach} {A : Net} {S x : List Int} {i : Nat} (hi : i < A.ends.length) (h2 : i < S.length) (hx : x = inbox m A S i) (h0 : 0 ≤ idxF (cfit S[i] x) m.clauses) (h3 : S[i].toNat < m.output.length) (ho : m.output[S[i].toNat] < 0) (h4 : (idxF (cfit S[i] x) m.clauses).toNat < m.clauses.length) {h : i < (stepS m A S).length} :
    (stepS m A S)[i] = (m.clauses[(idxF (cfit S[i] x) m.clauses).toNat]).2.2 := by
  subst hx
  have e : cls m A S i = idxF (cfit S[i] (inbox m A S i)) m.clauses := by unfold cls; rw [getD_eq h2]
  simp only [stepS, List.getElem_map, List.getElem_range, nxt]
  rw [e, getD_eq h2, getD_eq h3, if_pos ⟨h0, ho⟩, getD_eq h4]
theorem stp_no {m : Mach} {A : Net} {S x : List Int} {i : Nat} (hi : i < A.ends.length) (h2 : i < S.length) (hx : x = inbox m A S i) (h3 : S[i].toNat < m.output.length) (hn : ¬ (0 ≤ idxF (cfit S[i] x) m.clauses ∧ m.output[S[i].toNat] < 0)) {h : i < (stepS m A S).length} :
    (stepS m A S)[i] = S[i] := by
  subst hx
  have e : cls m A S i = idxF (cfit S[i] (inbox m A S i)) m.clauses := by unfold cls; rw [getD_eq h2]
  simp only [stepS, List.getElem_map, List.getElem_range, nxt]
  rw [e, getD_eq h2, getD_eq h3, if_neg hn]
theorem inbox_len {m : Mach} {A : Net} {S : List Int} {v : Nat} (hv : v < A.ends.length) : (inbox m A S v).length = A.ends[v].length := by unfold inbox; rw [getD_eq hv]; simp
theorem inbox_at {m : Mach} {A : Net} {S : List Int} {v j : Nat} (hv : v < A.ends.length) (hj : j < A.ends[v].length) {h1 : A.ends[v][j].1.toNat < S.length} {h2 : S[A.ends[v][j].1.toNat].toNat < m.send.length} {h3 : A.ends[v][j].2.toNat < (m.send[S[A.ends[v][j].1.toNat].toNat]).length} {h : j < (inbox m A S v).length} :
    (inbox m A S v)[j] = (m.send[S[A.ends[v][j].1.toNat].toNat])[A.ends[v][j].2.toNat] := by
  have e : (A.ends.getD v []) = A.ends[v] := getD_eq hv
  simp only [inbox, List.getElem_map, e, msg]
  rw [getD_eq h1, getD_eq h2, getD_eq h3]
theorem SOk.len {m : Mach} {A : Net} {S : List Int} (h : SOk m A S) : S.length = A.ends.length := by have := h.1; omega
theorem SOk.rng {m : Mach} {A : Net} {S : List Int} (h : SOk m A S) {i : Nat} (hi : i < S.length) : 0 ≤ S[i] ∧ S[i] ≤ m.states - 1 := allR_true.1 h.2 _ (List.getElem_mem hi)
theorem Fits.port {m : Mach} {A : Net} {S : List Int} (h : Fits m A) (hS : SOk m A S) {v j : Nat} (hv : v < A.ends.length) (hj : j < A.ends[v].length) :
    0 ≤ A.ends[v][j].1 ∧ 0 ≤ A.ends[v][j].2 ∧ ∃ h1 : A.ends[v][j].1.toNat < S.length, 0 ≤ S[A.ends[v][j].1.toNat] ∧ ∃ h2 : S[A.ends[v][j].1.toNat].toNat < m.send.length, A.ends[v][j].2.toNat < (m.send[S[A.ends[v][j].1.toNat].toNat]).length := by
  have he := h.2.1.endOk hv hj
  have hl := hS.len
  have h1 : A.ends[v][j].1.toNat < A.ends.length := he.2.1
  have h1' : A.ends[v][j].1.toNat < S.length := by omega
  have hr := hS.rng h1'
  have hsl := h.1.sendLen
  have h2 : S[A.ends[v][j].1.toNat].toNat < m.send.length := by omega
  have h3 := (h.1.send _ (List.getElem_mem h2)).1
  have h4 := h.2.2.1 _ h1
  have h5 : A.ends[v][j].2.toNat < (A.ends[A.ends[v][j].1.toNat]).length := he.2.2.2.1
  exact ⟨he.1, he.2.2.1, h1', hr.1, h2, by omega⟩
theorem Own.sto {lo : Nat} {w w' : World} {E : TypeId} {sz : Nat} {a : Option Addr} {n c : Nat} {cs : List Value} {b : Nat} {T : TypeId} {ds : List Value} (h : Own lo w E sz a n c cs) (k : Sto w w' b T ds) (hb : b < lo) : Own lo w' E sz a n c cs :=
  h.keep k.keep fun q hq => by have := (h.block q hq).1; show q.block ≠ b; omega
/-- X up to i, S from there on. -/
def mx (X S : List Int) (i : Nat) : List Int := (List.range S.length).map fun v => if v < i then X.getD v 0 else S.getD v 0
theorem mx_len (X S : List Int) (i : Nat) : (mx X S i).length = S.length := by simp [mx]
theorem mx_zero (X S : List Int) : mx X S 0 = S := by
  refine List.ext_getElem (by simp [mx]) fun j h1 h2 => ?_
  simp [mx, h2]
theorem mx_all {X S : List Int} {i : Nat} (h : X.length = S.length) (hi : S.length ≤ i) : mx X S i = X := by
  refine List.ext_getElem (by simp [mx, h]) fun j h1 h2 => ?_
  have : j < i := by omega
  simp [mx, h2, this]
theorem mx_put {X S : List Int} {i : Nat} {x : Int} (h : i < S.length) (hX : i < X.length) (hx : X[i] = x) : (mx X S i).set i x = mx X S (i + 1) := by
  refine List.ext_getElem (by simp [mx]) fun j h1 h2 => ?_
  by_cases hj : i = j
  · subst hj; subst hx; simp [mx, hX]
  · rw [List.getElem_set_ne hj]
    simp only [mx, List.getElem_map, List.getElem_range]
    by_cases h3 : j < i
    · rw [if_pos h3, if_pos (by omega)]
    · rw [if_neg h3, if_neg (by omega)]
theorem mx_keep {X S : List Int} {i : Nat} (h : i < S.length) (hX : i < X.length) (hx : X[i] = S[i]) : mx X S i = mx X S (i + 1) := by
  rw [← mx_put h hX hx]
  refine List.ext_getElem (by simp) fun j h1 h2 => ?_
  by_cases hj : i = j
  · subst hj; rw [List.getElem_set_self]; simp [mx, h]
  · rw [List.getElem_set_ne hj]
theorem isetR {w : World} {g j i : Nat} {T : TypeId} {xs : List Int} {rest : List Value} {x : Int} (hj : j = i) (hi : i < xs.length) (h : Blk w g T ((xs.map VI ++ rest).set j (VI x))) : Blk w g T ((xs.set i x).map VI ++ rest) := by
  subst hj
  rw [List.set_append_left _ _ (by simpa using hi)] at h
  rw [List.map_set]; exact h
theorem stepS_ok {m : Mach} {A : Net} {S : List Int} (h : Fits m A) (hS : SOk m A S) : SOk m A (stepS m A S) := by
  refine ⟨by rw [stepS_len], allR_true.2 fun x hx => ?_⟩
  obtain ⟨v, hv, rfl⟩ := List.mem_iff_getElem.1 hx
  rw [stepS_len] at hv
  have hl := hS.len
  have hr := hS.rng (show v < S.length by omega)
  have ho := h.1.outLen
  have h3 : S[v].toNat < m.output.length := by omega
  by_cases hc : 0 ≤ idxF (cfit S[v] (inbox m A S v)) m.clauses ∧ m.output[S[v].toNat] < 0
  · have hil := idxF_lt (p := cfit S[v] (inbox m A S v)) (xs := m.clauses)
    have h4 : (idxF (cfit S[v] (inbox m A S v)) m.clauses).toNat < m.clauses.length := by omega
    rw [stp_yes hv (by omega) rfl hc.1 h3 hc.2 h4]
    exact (h.1.clauses _ (List.getElem_mem h4)).2.1
  · rw [stp_no hv (by omega) rfl h3 hc]; exact hr

set_option maxRecDepth 100000 in
theorem l1Own_own {lo hi : Nat} (a : Option Addr) (c : Nat) (xs : List Int) (w : World) (hx : Ints lo hi w a c xs) (hhi : hi ≤ w.heap.size) (hm : xs.length ≤ 1048576) :
    Fn Tryz.prog 60 #[.slice a xs.length c] w (fun v w' => ∃ a' c', v = .slice a' xs.length c' ∧ Own w.heap.size w' 3 1 a' xs.length c' (xs.map VI) ∧ Ext w w') := by
  have hE := Ext.refl w
  refine Fn_of Tryz.func60 rfl rfl (by kernel_rfl) rfl ?_
  refine W_seq ?_
  refine W_region ?_
  refine WL_q rfl (ev_assign rfl) ?_
  refine WL_nil ?_
  refine thenE_n ?_
  refine W_seq ?_
  refine W_region ?_
  refine WL_m rfl (ev_lit0 Tryz.underlying24 el3) ?_
  rintro _ w3 ⟨rfl, hN3⟩
  have hz3 := hN3.size
  replace hE := hE.trans hN3.ext
  replace hx := hx.ext hN3.ext
  have hB3 := hN3.blk
  have hOz := Own.of_new (n := 0) (sz := 1) hN3 rfl (by decide)
  refine WL_q rfl (ev_move rfl) ?_
  refine WL_m rfl (ev_append Tryz.underlying24 el3 rfl (by decide) rfl rfl hOz hx.sat (by simp) (by simp [Value.oneCell']) (by omega) (by unfold maxLen; omega) (by omega)) ?_
  rintro _ w5 ⟨a5, c5, rfl, hO5, hK5, hQ5⟩
  have hz5 := hK5.size
  replace hE := hE.app hK5 (fun q hq => (hOz.block q hq).1)
  replace hx := hx.app hK5 (hOz) (by omega)
  replace hOz := hO5
  refine WL_q rfl (ev_assign rfl) ?_
  refine WL_nil ?_
  refine thenE_n ?_
  refine W_ret ?_
  refine ret1 rfl rfl ?_
  exact ⟨a5, c5, by rw [Nat.zero_add], own_zadd hOz, hE⟩

set_option maxRecDepth 100000 in
theorem maInbox_spec {lom him : Nat} (nm : MA) (m : Mach) {loA hiA : Nat} (nA : NA) (A : Net) {loS hiS : Nat} (aS : Option Addr) (cS : Nat) (S : List Int) (v : Int) (w : World) (hm : IsMach lom him w nm m) (hhim : him ≤ w.heap.size) (hnm : totM m ≤ 1048576) (hA : IsNet loA hiA w nA A) (hhiA : hiA ≤ w.heap.size) (hnA : totN A ≤ 1048576) (hS : Ints loS hiS w aS cS S) (hhiS : hiS ≤ w.heap.size) (hnS : S.length ≤ 1048576) (hf : Fits m A) (hso : SOk m A S) (hv1 : 0 ≤ v) (hv2 : v.toNat < A.ends.length) :
    Fn Tryz.prog 62 #[machV nm m, netV nA A, .slice aS S.length cS, VI v] w (fun r w' => ∃ a' c', r = .slice a' (inbox m A S v.toNat).length c' ∧ Own w.heap.size w' 3 1 a' (inbox m A S v.toNat).length c' ((inbox m A S v.toNat).map VI) ∧ Ext w w') := by
  have hmm : totL m.start + totL m.send + totC m.clauses + m.output.length ≤ 1048576 := hnm
  have hqA := totL_len A.ends
  have hmA : totL A.ends + A.ids.length + A.inputs.length ≤ 1048576 := hnA
  have hkm := hf.1
  have hkA := hf.2.1
  have hnd := hkA.nodes
  have hsl := hso.len
  have hst := hkm.states
  have hol := hkm.outLen
  have hcl := hkm.clLen
  have hdg := hkm.deg
  have hil := inbox_len (m := m) (S := S) hv2
  have hdv := hf.2.2.1 _ hv2
  have hE := Ext.refl w
  refine Fn_of Tryz.func62 rfl rfl (by kernel_rfl) rfl ?_
  refine W_seq ?_
  refine W_region ?_
  refine WL_m rfl (ev_box rfl) ?_
  rintro _ w4 ⟨rfl, hN4⟩
  have hz4 := hN4.size
  replace hE := hE.trans hN4.ext
  replace hm := hm.ext hN4.ext
  replace hA := hA.ext hN4.ext
  replace hS := hS.ext hN4.ext
  have hB4 : Blk w4 _ _ [_, _, _, _, _, _, _] := hN4.blk
  refine WL_m rfl (ev_box rfl) ?_
  rintro _ w5 ⟨rfl, hN5⟩
  have hz5 := hN5.size
  replace hE := hE.trans hN5.ext
  replace hm := hm.ext hN5.ext
  replace hA := hA.ext hN5.ext
  replace hS := hS.ext hN5.ext
  replace hB4 := hB4.ext hN5.ext
  have hB5 : Blk w5 _ _ [_, _, _] := hN5.blk
  refine WL_q rfl (ev_assign rfl) ?_
  refine WL_nil ?_
  refine thenE_n ?_
  refine W_seq ?_
  refine W_region ?_
  refine WL_q rfl (ev_assign rfl) ?_
  refine WL_nil ?_
  refine thenE_n ?_
  refine W_seq ?_
  refine W_seq ?_
  refine W_region ?_
  refine WL_q rfl (ev_fieldAddr fo40_0 rfl) ?_
  refine WL_q rfl (ev_load one38 rfl (hB5.cell rfl)) ?_
  refine WL_q rfl (ev_move rfl) ?_
  have hl15 : v.toNat < A.ends.length := by omega
  have ht15 := totL_le hl15
  obtain ⟨a15, c15, hc15, hr15⟩ := hA.ends.row hl15
  refine WL_q rfl (ev_indexAddr Tryz.underlying38 sz80 rfl rfl (hA.ends.isSome (by omega)) (by omega) (by omega)) ?_
  refine WL_q rfl (ev_load one80 rfl (hc15)) ?_
  refine WL_q rfl (ev_len Tryz.underlying80 rfl) ?_
  refine WL_q rfl (ev_move rfl) ?_
  refine WL_nil ?_
  refine thenE_n ?_
  refine W_block ?_
  refine W_loopC (G := Nat × Option Addr × Nat) [(2, _), (4, _), (16, _), (17, _)] ((Subs.c rfl (Subs.c rfl (Subs.c rfl (Subs.c rfl Subs.n))))) (fun ⟨i, a, c⟩ => [(9, .slice a i c), (18, VI (i : Int))]) (fun ⟨i, a, c⟩ w' => Ext w5 w' ∧ i ≤ A.ends[v.toNat].length ∧ OwnH w5.heap.size w'.heap.size 0 0 w' 3 1 a i c (((inbox m A S v.toNat).take i).map VI)) (fun g => A.ends[v.toNat].length - g.1) (0, none, 0) ((Subs.c rfl (Subs.c (lkI rfl (by omega)) Subs.n))) (⟨Ext.refl _, ⟨by omega, OwnH.nil⟩⟩) ?_
  rintro ⟨i, a, c⟩ wL0 ⟨hRL0, hi', hO⟩
  have hzL0 := hRL0.size
  replace hE := hE.trans hRL0
  replace hm := hm.ext hRL0
  replace hA := hA.ext hRL0
  replace hS := hS.ext hRL0
  replace hB4 := hB4.ext hRL0
  replace hB5 := hB5.ext hRL0
  replace hr15 := hr15.ext hRL0
  refine W_seq ?_
  refine W_region ?_
  refine WL_q rfl (ev_lss rfl rfl) ?_
  refine WL_nil ?_
  refine thenE_n ?_
  refine W_seq ?_
  refine W_cond rfl (fun hg19 => ?_) (fun hg19 => ?_)
  · have hp19 := of_decide_eq_true hg19
    refine W_skip ?_
    refine thenE_n ?_
    refine W_seq ?_
    refine W_block ?_
    refine W_seq ?_
    refine W_region ?_
    have hlt : i < A.ends[v.toNat].length := by omega
    have hpt := hf.port hso (v := v.toNat) (j := i) (by omega) (by omega)
    obtain ⟨hp1, hp2, hp3, hp4, hp5, hp6⟩ := hpt
    refine WL_q rfl (ev_indexAddr Tryz.underlying80 sz89 rfl rfl (hr15.isSome (by omega)) (by omega) (by omega)) ?_
    refine WL_q rfl (ev_loads st89 sz89 rfl (hr15.cells (i := i) (by omega)) rfl) ?_
    refine WL_m rfl (ev_alloc zr89) ?_
    rintro _ w11 ⟨rfl, hN11⟩
    have hz11 := hN11.size
    replace hE := hE.trans hN11.ext
    replace hRL0 := hRL0.trans hN11.ext
    replace hm := hm.ext hN11.ext
    replace hA := hA.ext hN11.ext
    replace hS := hS.ext hN11.ext
    replace hB4 := hB4.ext hN11.ext
    replace hB5 := hB5.ext hN11.ext
    replace hr15 := hr15.ext hN11.ext
    replace hO := hO.ext hN11.ext
    have hB11 : Blk w11 _ _ [_, _] := hN11.blk
    refine WL_s (ev_stores sz89 rfl rfl rfl (by simp [Value.oneCell']) hB11 (by simp)) ?_
    rintro _ w4_3 hS4_3
    have hz4_3 := hS4_3.size
    replace hE := hE.sto hS4_3 (by omega)
    replace hRL0 := hRL0.sto hS4_3 (by omega)
    replace hm := hm.sto hS4_3 (by omega)
    replace hA := hA.sto hS4_3 (by omega)
    replace hS := hS.sto hS4_3 (by omega)
    replace hB4 := hB4.sto hS4_3 (by omega)
    replace hB5 := hB5.sto hS4_3 (by omega)
    replace hr15 := hr15.sto hS4_3 (by omega)
    replace hO := hO.sto hS4_3 (by omega)
    replace hB11 : Blk w4_3 _ _ [_, _] := hS4_3.blk
    refine WL_nil ?_
    refine thenE_n ?_
    refine W_drawR w5.heap.size wL0.heap.size 0 0 (fun w' => True) [(0, true), (1, true), (2, true), (3, true), (4, true), (5, true), (6, true), (7, true), (8, true), (9, true), (10, true), (11, true), (12, true), (13, true), (14, false), (15, false), (16, true)] mixed (by kernel_rfl) rfl (by kernel_rfl) (fun _ _ => trivial) ?_
    intro wd5 hEd5 hzd5
    replace hE := hE.trans hEd5
    replace hRL0 := hRL0.trans hEd5
    replace hm := hm.ext hEd5
    replace hA := hA.ext hEd5
    replace hS := hS.ext hEd5
    replace hB4 := hB4.ext hEd5
    replace hB5 := hB5.ext hEd5
    replace hr15 := hr15.ext hEd5
    replace hO := hO.ext hEd5
    replace hB11 := hB11.ext hEd5
    have hDd5 := (Rg.refl : Rg w5.heap.size wL0.heap.size 0 0 wd5 wd5)
    refine PW_q rfl rfl (fun wq hq => ev_move rfl) ?_
    refine PW_q rfl rfl (fun wq hq => ev_fieldAddr fo36_4 rfl) ?_
    refine PW_q rfl rfl (fun wq hq => ev_load one22 rfl ((hB4.rg hq.1 (by omega)).cell rfl)) ?_
    refine PW_q rfl rfl (fun wq hq => ev_move rfl) ?_
    refine PW_q rfl rfl (fun wq hq => ev_fieldAddr fo89_0 rfl) ?_
    refine PW_q rfl rfl (fun wq hq => ev_load one3 rfl ((hB11.rg hq.1 (by omega)).cell rfl)) ?_
    refine PW_q rfl rfl (fun wq hq => ev_indexAddr Tryz.underlying24 sz3 rfl rfl (hS.isSome (by omega)) (by omega) (by omega)) ?_
    refine PW_q rfl rfl (fun wq hq => ev_load one3 rfl ((hS.rg hq.1 (by omega)).cellJ (i := A.ends[v.toNat][i].1.toNat) (j := A.ends[v.toNat][i].1.toNat) (by omega) (by omega))) ?_
    have hl30 : S[A.ends[v.toNat][i].1.toNat].toNat < m.send.length := by omega
    have ht30 := totL_le hl30
    obtain ⟨a30, c30, hc30, hr30⟩ := hm.send.row hl30
    refine PW_q rfl rfl (fun wq hq => ev_indexAddr Tryz.underlying22 sz24 rfl rfl (hm.send.isSome (by omega)) (by omega) (by omega)) ?_
    refine PW_q rfl rfl (fun wq hq => ev_load one24 rfl (hq.1.cell' hc30 (by have := hm.send.rng (Nat.lt_of_le_of_lt (Nat.zero_le _) hl30); omega))) ?_
    refine PW_q rfl rfl (fun wq hq => ev_fieldAddr fo89_1 rfl) ?_
    refine PW_q rfl rfl (fun wq hq => ev_load one3 rfl ((hB11.rg hq.1 (by omega)).cell rfl)) ?_
    refine PW_q rfl rfl (fun wq hq => ev_indexAddr Tryz.underlying24 sz3 rfl rfl (hr30.isSome (by omega)) (by omega) (by omega)) ?_
    refine PW_q rfl rfl (fun wq hq => ev_load one3 rfl ((hr30.rg hq.1 (by omega)).cellJ (i := A.ends[v.toNat][i].2.toNat) (j := A.ends[v.toNat][i].2.toNat) (by omega) (by omega))) ?_
    refine PW_m rfl rfl (ev_lit1 Tryz.underlying24 el3 (by decide) (by decide) rfl rfl) ?_
    rintro _ w36 ⟨rfl, hN36⟩
    have hz36 := hN36.size
    replace hE := hE.trans hN36.ext
    replace hRL0 := hRL0.trans hN36.ext
    replace hDd5 := hDd5.trans hN36.ext
    replace hO := hO.ext hN36.ext
    have hB36 := hN36.blk
    refine ⟨⟨hDd5, trivial⟩, ?_⟩
    have hm_15 := hm.rg hDd5 (by omega)
    have hA_15 := hA.rg hDd5 (by omega)
    have hS_15 := hS.rg hDd5 (by omega)
    have hB4_15 := hB4.rg hDd5 (by omega)
    have hB5_15 := hB5.rg hDd5 (by omega)
    have hr15_15 := hr15.rg hDd5 (by omega)
    have hB11_15 := hB11.rg hDd5 (by omega)
    have hr30_15 := hr30.rg hDd5 (by omega)
    refine PW_m rfl rfl (ev_appendT Tryz.underlying24 el3 rfl (by decide) rfl rfl hO (SAt.of_blk (cs := [_]) (ds := []) hB36) rfl (by simp [Value.oneCell']) (by omega) (by unfold maxLen; omega) (by omega)) ?_
    rintro _ w37 ⟨a37, c37, rfl, hO37, hK37, hQ37⟩
    have hz37 := hK37.size
    replace hE := hE.rg hK37 (by omega)
    replace hRL0 := hRL0.rg hK37 (by omega)
    replace hDd5 := hDd5.rg hK37 (by omega)
    replace hB36 := hB36.rg hK37 (by omega)
    replace hO := hO37
    replace hO := ownt_snocI hO
    refine ⟨⟨hDd5, trivial⟩, ?_⟩
    refine PW_q rfl rfl (fun wq hq => ev_assign rfl) ?_
    replace hm := hm.rg hDd5 (by omega)
    replace hA := hA.rg hDd5 (by omega)
    replace hS := hS.rg hDd5 (by omega)
    replace hB4 := hB4.rg hDd5 (by omega)
    replace hB5 := hB5.rg hDd5 (by omega)
    replace hr15 := hr15.rg hDd5 (by omega)
    replace hB11 := hB11.rg hDd5 (by omega)
    replace hr30 := hr30.rg hDd5 (by omega)
    refine PW_nil ?_
    refine blockE_n ?_
    refine thenE_n ?_
    refine W_region ?_
    refine WL_q rfl (ev_add rfl rfl (by omega)) ?_
    refine WL_q rfl (ev_move rfl) ?_
    refine WL_nil ?_
    refine thenE_n ?_
    exact ⟨(i + 1, a37, c37), (Subs.c rfl (Subs.c rfl (Subs.c rfl (Subs.c rfl Subs.n)))), (Subs.c rfl (Subs.c (lkI rfl (by omega)) Subs.n)), ⟨hRL0, ⟨by omega, (ownt_take hO (by omega) (inbox_at hv2 hlt (h1 := hp3) (h2 := hp5) (h3 := hp6))).up (Nat.le_refl _) (by omega)⟩⟩, by first | omega | (dsimp only; omega)⟩
  · have hp19 := of_decide_eq_false hg19
    refine W_exit ?_
    refine thenE_x ?_
    refine thenE_x ?_
    refine blockE_hit ?_
    refine thenE_n ?_
    refine W_seq ?_
    refine W_region ?_
    refine WL_q rfl (ev_move rfl) ?_
    refine WL_q rfl (ev_assign rfl) ?_
    refine WL_nil ?_
    refine thenE_n ?_
    refine W_ret ?_
    refine ret1 rfl rfl ?_
    have hi9 : i = (inbox m A S v.toNat).length := by omega
    subst hi9
    exact ⟨_, _, rfl, by rw [List.take_length] at hO; exact hO.1.mono (by omega), hE⟩

set_option maxRecDepth 100000 in
theorem maStep_spec {lom him : Nat} (nm : MA) (m : Mach) {loA hiA : Nat} (nA : NA) (A : Net) {loS hiS : Nat} (aS : Option Addr) (cS : Nat) (S : List Int) (w : World) (hm : IsMach lom him w nm m) (hhim : him ≤ w.heap.size) (hnm : totM m ≤ 1048576) (hA : IsNet loA hiA w nA A) (hhiA : hiA ≤ w.heap.size) (hnA : totN A ≤ 1048576) (hS : Ints loS hiS w aS cS S) (hhiS : hiS ≤ w.heap.size) (hnS : S.length ≤ 1048576) (hf : Fits m A) (hso : SOk m A S) :
    Fn Tryz.prog 43 #[machV nm m, netV nA A, .slice aS S.length cS] w (fun r w' => ∃ a' c', r = .slice a' (stepS m A S).length c' ∧ Own w.heap.size w' 3 1 a' (stepS m A S).length c' ((stepS m A S).map VI) ∧ Ext w w') := by
  have hmm : totL m.start + totL m.send + totC m.clauses + m.output.length ≤ 1048576 := hnm
  have hqA := totL_len A.ends
  have hmA : totL A.ends + A.ids.length + A.inputs.length ≤ 1048576 := hnA
  have hkm := hf.1
  have hkA := hf.2.1
  have hnd := hkA.nodes
  have hsl := hso.len
  have hst := hkm.states
  have hol := hkm.outLen
  have hcl := hkm.clLen
  have hdg := hkm.deg
  have hE := Ext.refl w
  refine Fn_of Tryz.func43 rfl rfl (by kernel_rfl) rfl ?_
  refine W_seq ?_
  refine W_region ?_
  refine WL_m rfl (ev_box rfl) ?_
  rintro _ w3 ⟨rfl, hN3⟩
  have hz3 := hN3.size
  replace hE := hE.trans hN3.ext
  replace hm := hm.ext hN3.ext
  replace hA := hA.ext hN3.ext
  replace hS := hS.ext hN3.ext
  have hB3 : Blk w3 _ _ [_, _, _, _, _, _, _] := hN3.blk
  refine WL_m rfl (ev_box rfl) ?_
  rintro _ w4 ⟨rfl, hN4⟩
  have hz4 := hN4.size
  replace hE := hE.trans hN4.ext
  replace hm := hm.ext hN4.ext
  replace hA := hA.ext hN4.ext
  replace hS := hS.ext hN4.ext
  replace hB3 := hB3.ext hN4.ext
  have hB4 : Blk w4 _ _ [_, _, _] := hN4.blk
  refine WL_q rfl (ev_assign rfl) ?_
  refine WL_nil ?_
  refine thenE_n ?_
  refine W_seq ?_
  refine W_region ?_
  refine WL_q rfl (ev_move rfl) ?_
  refine WL_m rfl (ev_call rfl (l1Own_own _ _ S _ hS (by omega) (by omega))) ?_
  rintro _ w12 ⟨a12, c12, rfl, hO12, hE12⟩
  have hz12 := hE12.size
  replace hE := hE.trans hE12
  replace hm := hm.ext hE12
  replace hA := hA.ext hE12
  replace hS := hS.ext hE12
  replace hB3 := hB3.ext hE12
  replace hB4 := hB4.ext hE12
  obtain ⟨g, rest, rfl, hg1, hBk, hc1, hc2, hc3, hc4⟩ := hO12.blk (by omega)
  refine WL_q rfl (ev_assign rfl) ?_
  refine WL_nil ?_
  refine thenE_n ?_
  refine W_seq ?_
  refine W_seq ?_
  refine W_region ?_
  refine WL_q rfl (ev_move rfl) ?_
  refine WL_q rfl (ev_len Tryz.underlying24 rfl) ?_
  refine WL_q rfl (ev_move rfl) ?_
  refine WL_nil ?_
  refine thenE_n ?_
  refine W_block ?_
  refine W_loopC (G := Nat) [(2, _), (3, _), (4, _), (7, _), (13, _), (14, _)] ((Subs.c rfl (Subs.c rfl (Subs.c rfl (Subs.c rfl (Subs.c rfl (Subs.c rfl Subs.n))))))) (fun i => [(15, VI (i : Int))]) (fun i w' => KX (g) w12 w' ∧ i ≤ S.length ∧ Blk w' g 3 ((mx (stepS m A S) S i).map VI ++ rest)) (fun i => S.length - i) 0 ((Subs.c (lkI rfl (by omega)) Subs.n)) (⟨KX.refl _ _, ⟨by omega, by rw [mx_zero]; exact hBk⟩⟩) ?_
  rintro i wL0 ⟨hRL0, hi', hBk⟩
  have hzL0 := hRL0.size
  replace hm := hm.kx hRL0 (by omega)
  replace hA := hA.kx hRL0 (by omega)
  replace hS := hS.kx hRL0 (by omega)
  replace hB3 := hB3.kx hRL0 (by omega)
  replace hB4 := hB4.kx hRL0 (by omega)
  replace hE := hE.kx hRL0 (by omega)
  refine W_seq ?_
  refine W_region ?_
  refine WL_q rfl (ev_lss rfl rfl) ?_
  refine WL_nil ?_
  refine thenE_n ?_
  refine W_seq ?_
  refine W_cond rfl (fun hg16 => ?_) (fun hg16 => ?_)
  · have hp16 := of_decide_eq_true hg16
    refine W_skip ?_
    refine thenE_n ?_
    refine W_seq ?_
    refine W_block ?_
    refine W_seq ?_
    refine W_region ?_
    refine WL_q rfl (ev_move rfl) ?_
    have hg9 := hBk.lt
    have hlt : i < S.length := by omega
    have hlA : i < A.ends.length := by omega
    have hsr := hso.rng hlt
    have hso3 : S[i].toNat < m.output.length := by omega
    refine WL_q rfl (ev_indexAddr Tryz.underlying24 sz3 rfl rfl (hS.isSome (by omega)) (by omega) (by omega)) ?_
    refine WL_q rfl (ev_load one3 rfl (hS.cell (i := i) (by omega))) ?_
    refine WL_q rfl (ev_assign rfl) ?_
    refine WL_q rfl (ev_assign rfl) ?_
    refine WL_nil ?_
    refine thenE_n ?_
    refine W_seq ?_
    refine W_drawE [(0, true), (1, true), (2, true), (3, true), (4, true), (5, true), (6, false), (7, false), (8, true)] mixed (by kernel_rfl) rfl (by kernel_rfl) ?_
    intro wd5 hEd5 hzd5
    replace hE := hE.trans hEd5
    replace hRL0 := hRL0.trans hEd5
    replace hm := hm.ext hEd5
    replace hA := hA.ext hEd5
    replace hS := hS.ext hEd5
    replace hB3 := hB3.ext hEd5
    replace hB4 := hB4.ext hEd5
    replace hBk := hBk.ext hEd5
    have hDd5 := Ext.refl wd5
    refine PW_q rfl rfl (fun wq hq => ev_loads st36 sz36 rfl (cellsB (hq.blk hB3)) rfl) ?_
    refine PW_q rfl rfl (fun wq hq => ev_move rfl) ?_
    refine PW_q rfl rfl (fun wq hq => ev_loads st36 sz36 rfl (cellsB (hq.blk hB3)) rfl) ?_
    refine PW_q rfl rfl (fun wq hq => ev_loads st40 sz40 rfl (cellsB (hq.blk hB4)) rfl) ?_
    refine PW_q rfl rfl (fun wq hq => ev_move rfl) ?_
    refine PW_q rfl rfl (fun wq hq => ev_move rfl) ?_
    refine PW_m rfl rfl (ev_call rfl (maInbox_spec _ m _ A _ _ S _ _ hm (by omega) (by omega) hA (by omega) (by omega) hS (by omega) (by omega) (by assumption) (by assumption) (by omega) (by omega))) ?_
    rintro _ w26 ⟨a26, c26, rfl, hO26, hE26⟩
    have hz26 := hE26.size
    replace hE := hE.trans hE26
    replace hRL0 := hRL0.trans hE26
    replace hDd5 := hDd5.trans hE26
    refine ⟨hDd5, ?_⟩
    have hm_7 := hm.ext hDd5
    have hA_7 := hA.ext hDd5
    have hS_7 := hS.ext hDd5
    have hB3_7 := hB3.ext hDd5
    have hB4_7 := hB4.ext hDd5
    have hBk_7 := hBk.ext hDd5
    refine PW_m rfl rfl (ev_call rfl (maClause_spec _ m _ _ _ (inbox m A S (i : Int).toNat) _ hm_7 (own_i hO26) (by omega) (by omega) (by omega) (by assumption))) ?_
    rintro _ w27 ⟨rfl, hE27⟩
    have hz27 := hE27.size
    replace hE := hE.trans hE27
    replace hRL0 := hRL0.trans hE27
    replace hDd5 := hDd5.trans hE27
    replace hO26 := hO26.ext hE27
    refine ⟨hDd5, ?_⟩
    refine PW_q rfl rfl (fun wq hq => ev_assign rfl) ?_
    replace hm := hm.ext hDd5
    replace hA := hA.ext hDd5
    replace hS := hS.ext hDd5
    replace hB3 := hB3.ext hDd5
    replace hB4 := hB4.ext hDd5
    replace hBk := hBk.ext hDd5
    refine PW_nil ?_
    refine thenE_n ?_
    refine W_seq ?_
    refine W_region ?_
    refine WL_q rfl (ev_move rfl) ?_
    refine WL_q rfl (ev_geq rfl rfl) ?_
    refine WL_q rfl (ev_move rfl) ?_
    refine WL_splitv (t := 30) rfl (fun hg29 => ?_) (fun hg29 => ?_)
    · have hp29 := of_decide_eq_true hg29
      refine WL_qg rfl rfl hg29 rfl (ev_fieldAddr fo36_6 rfl) ?_
      refine WL_qg rfl rfl hg29 rfl (ev_load one24 rfl (hB3.cell rfl)) ?_
      refine WL_qg rfl rfl hg29 rfl (ev_move rfl) ?_
      refine WL_qg rfl rfl hg29 rfl (ev_indexAddr Tryz.underlying24 sz3 rfl rfl (hm.output.isSome (by omega)) (by omega) (by omega)) ?_
      refine WL_qg rfl rfl hg29 rfl (ev_load one3 rfl (hm.output.cell (i := S[i].toNat) (by omega))) ?_
      refine WL_qg rfl rfl hg29 rfl (ev_lss rfl rfl) ?_
      refine WL_q rfl (ev_pick_t rfl hg29 rfl) ?_
      refine WL_nil ?_
      refine thenE_n ?_
      refine W_cond rfl (fun hg36 => ?_) (fun hg36 => ?_)
      · have hp36 := of_decide_eq_true hg36
        refine W_region ?_
        refine WL_q rfl (ev_move rfl) ?_
        refine WL_q rfl (ev_move rfl) ?_
        refine WL_q rfl (ev_fieldAddr fo36_5 rfl) ?_
        refine WL_q rfl (ev_load one34 rfl (hB3.cell rfl)) ?_
        refine WL_q rfl (ev_move rfl) ?_
        have hic := idxF_lt (p := cfit S[i] (inbox m A S ((i : Nat) : Int).toNat)) (xs := m.clauses)
        have hik : (idxF (cfit S[i] (inbox m A S ((i : Nat) : Int).toNat)) m.clauses).toNat < m.clauses.length := by omega
        obtain ⟨a9, c9, hc9, hr9⟩ := hm.clauses.cl hik
        refine WL_q rfl (ev_indexAddr Tryz.underlying34 sz78 rfl rfl (hm.clauses.isSome (by omega)) (by omega) (by omega)) ?_
        refine WL_q rfl (ev_fieldAddr fo78_2 rfl) ?_
        refine WL_q rfl (ev_load one3 rfl (hc9 2 (by simp))) ?_
        refine WL_q rfl (ev_indexAddr Tryz.underlying24 sz3 rfl rfl rfl (by omega) (by omega)) ?_
        refine WL_s (ev_store sz3 rfl rfl rfl hBk (by simp [mx_len]; omega)) ?_
        rintro _ w7_9 hS7_9
        have hz7_9 := hS7_9.size
        replace hE := hE.sto hS7_9 (by omega)
        replace hRL0 := hRL0.sto hS7_9 (by omega)
        replace hm := hm.sto hS7_9 (by omega)
        replace hA := hA.sto hS7_9 (by omega)
        replace hS := hS.sto hS7_9 (by omega)
        replace hB3 := hB3.sto hS7_9 (by omega)
        replace hB4 := hB4.sto hS7_9 (by omega)
        replace hO26 := hO26.sto hS7_9 (by omega)
        replace hBk := hS7_9.blk
        replace hBk := isetR (i := i) (by omega) (by rw [mx_len]; exact hlt) hBk
        refine WL_nil ?_
        refine blockE_n ?_
        refine thenE_n ?_
        refine W_region ?_
        refine WL_q rfl (ev_add rfl rfl (by omega)) ?_
        refine WL_q rfl (ev_move rfl) ?_
        refine WL_nil ?_
        refine thenE_n ?_
        have hst9 := stp_yes (x := (inbox m A S ((i : Nat) : Int).toNat)) hlA hlt rfl (by omega) hso3 (by omega) hik (h := by rw [stepS_len]; exact hlA)
        rw [mx_put hlt (by rw [stepS_len]; exact hlA) hst9] at hBk
        exact ⟨i + 1, (Subs.c rfl (Subs.c rfl (Subs.c rfl (Subs.c rfl (Subs.c rfl (Subs.c rfl Subs.n)))))), (Subs.c (lkI rfl (by omega)) Subs.n), ⟨hRL0, ⟨by omega, hBk⟩⟩, by first | omega | (dsimp only; omega)⟩
      · have hp36 := of_decide_eq_false hg36
        refine W_skip ?_
        refine blockE_n ?_
        refine thenE_n ?_
        refine W_region ?_
        refine WL_q rfl (ev_add rfl rfl (by omega)) ?_
        refine WL_q rfl (ev_move rfl) ?_
        refine WL_nil ?_
        refine thenE_n ?_
        have hst9 := stp_no (x := (inbox m A S ((i : Nat) : Int).toNat)) hlA hlt rfl hso3 (by omega) (h := by rw [stepS_len]; exact hlA)
        rw [mx_keep hlt (by rw [stepS_len]; exact hlA) hst9] at hBk
        exact ⟨i + 1, (Subs.c rfl (Subs.c rfl (Subs.c rfl (Subs.c rfl (Subs.c rfl (Subs.c rfl Subs.n)))))), (Subs.c (lkI rfl (by omega)) Subs.n), ⟨hRL0, ⟨by omega, hBk⟩⟩, by first | omega | (dsimp only; omega)⟩
    · have hp29 := of_decide_eq_false hg29
      refine WL_no rfl rfl hg29 rfl ?_
      refine WL_no rfl rfl hg29 rfl ?_
      refine WL_no rfl rfl hg29 rfl ?_
      refine WL_no rfl rfl hg29 rfl ?_
      refine WL_no rfl rfl hg29 rfl ?_
      refine WL_no rfl rfl hg29 rfl ?_
      refine WL_q rfl (ev_pick_f rfl hg29 rfl) ?_
      refine WL_nil ?_
      refine thenE_n ?_
      refine W_cond_f rfl ?_
      refine W_skip ?_
      refine blockE_n ?_
      refine thenE_n ?_
      refine W_region ?_
      refine WL_q rfl (ev_add rfl rfl (by omega)) ?_
      refine WL_q rfl (ev_move rfl) ?_
      refine WL_nil ?_
      refine thenE_n ?_
      have hst9 := stp_no (x := (inbox m A S ((i : Nat) : Int).toNat)) hlA hlt rfl hso3 (by omega) (h := by rw [stepS_len]; exact hlA)
      rw [mx_keep hlt (by rw [stepS_len]; exact hlA) hst9] at hBk
      exact ⟨i + 1, (Subs.c rfl (Subs.c rfl (Subs.c rfl (Subs.c rfl (Subs.c rfl (Subs.c rfl Subs.n)))))), (Subs.c (lkI rfl (by omega)) Subs.n), ⟨hRL0, ⟨by omega, hBk⟩⟩, by first | omega | (dsimp only; omega)⟩
  · have hp16 := of_decide_eq_false hg16
    refine W_exit ?_
    refine thenE_x ?_
    refine thenE_x ?_
    refine blockE_hit ?_
    refine thenE_n ?_
    refine W_seq ?_
    refine W_region ?_
    refine WL_q rfl (ev_move rfl) ?_
    refine WL_q rfl (ev_assign rfl) ?_
    refine WL_nil ?_
    refine thenE_n ?_
    refine W_ret ?_
    refine ret1 rfl rfl ?_
    exact ⟨_, _, by rw [stepS_len, ← hsl], by rw [stepS_len, ← hsl]; rw [mx_all (by rw [stepS_len, hsl]) (by omega)] at hBk; exact Own.of_blk hBk (by omega) (by omega) (by omega) (by simp only [List.length_append, List.length_map, stepS_len] at hc3 ⊢; omega) (by simp [stepS_len, hsl]), hE⟩

/-- What comes in at each node. -/
def bxs (m : Mach) (A : Net) (S : List Int) : List (List Int) := (List.range A.ends.length).map (inbox m A S)
theorem bxs_len (m : Mach) (A : Net) (S : List Int) : (bxs m A S).length = A.ends.length := by simp [bxs]
theorem bxs_at {m : Mach} {A : Net} {S : List Int} {i : Nat} {h : i < (bxs m A S).length} : (bxs m A S)[i] = inbox m A S i := by simp [bxs]
/-- The same after the nodes before i, and j ports of i. -/
def bxj (m : Mach) (A : Net) (S : List Int) (i j : Nat) : List (List Int) := (List.range A.ends.length).map fun v => if v < i then inbox m A S v else if v = i then (inbox m A S v).take j else []
theorem bxj_len (m : Mach) (A : Net) (S : List Int) (i j : Nat) : (bxj m A S i j).length = A.ends.length := by simp [bxj]
theorem bxj_zero (m : Mach) (A : Net) (S : List Int) : bxj m A S 0 0 = List.replicate A.ends.length [] := by
  refine List.ext_getElem (by simp [bxj]) fun j h1 h2 => ?_
  simp [bxj]
theorem bxj_next {m : Mach} {A : Net} {S : List Int} {i j : Nat} (hj : (inbox m A S i).length ≤ j) : bxj m A S i j = bxj m A S (i + 1) 0 := by
  refine List.ext_getElem (by simp [bxj]) fun v h1 h2 => ?_
  simp only [bxj, List.getElem_map, List.getElem_range]
  by_cases h3 : v < i
  · rw [if_pos h3, if_pos (by omega)]
  · rw [if_neg h3]
    by_cases h4 : v = i
    · subst h4; rw [if_pos rfl, if_pos (by omega), List.take_of_length_le hj]
    · rw [if_neg h4, if_neg (by omega)]; simp
theorem bxj_all {m : Mach} {A : Net} {S : List Int} {i j : Nat} (hi : A.ends.length ≤ i) : bxj m A S i j = bxs m A S := by
  refine List.ext_getElem (by simp [bxj, bxs]) fun v h1 h2 => ?_
  have : v < i := by rw [bxj_len] at h1; omega
  simp [bxj, bxs, this]
theorem bxj_row {m : Mach} {A : Net} {S : List Int} {i j : Nat} {h : i < (bxj m A S i j).length} : (bxj m A S i j)[i] = (inbox m A S i).take j := by simp [bxj]
theorem bxj_put {m : Mach} {A : Net} {S : List Int} {i j : Nat} {x : Int} (hi : i < (bxj m A S i j).length) (hj : j < (inbox m A S i).length) (hx : (inbox m A S i)[j] = x) : (bxj m A S i j).set i ((bxj m A S i j)[i] ++ [x]) = bxj m A S i (j + 1) := by
  refine List.ext_getElem (by simp [bxj]) fun v h1 h2 => ?_
  by_cases h3 : i = v
  · subst h3; subst hx
    rw [List.getElem_set_self, bxj_row, bxj_row, List.take_append_getElem hj]
  · rw [List.getElem_set_ne h3]
    simp only [bxj, List.getElem_map, List.getElem_range]
    rw [if_neg (Ne.symm h3), if_neg (Ne.symm h3)]
theorem own_snocF {lo : Nat} {w : World} {E : TypeId} {a : Option Addr} {n c : Nat} {xs : List Int} {x : Int} (h : Own lo w E 1 a n c (xs.flatMap intF ++ [VI x])) : Own lo w E 1 a n c ((xs ++ [x]).flatMap intF) := by
  rw [List.flatMap_append]; exact h

set_option maxRecDepth 100000 in
theorem inboxes_spec {lom him : Nat} (nm : MA) (m : Mach) {loA hiA : Nat} (nA : NA) (A : Net) {loS hiS : Nat} (aS : Option Addr) (cS : Nat) (S : List Int) (w : World) (hm : IsMach lom him w nm m) (hhim : him ≤ w.heap.size) (hnm : totM m ≤ 1048576) (hA : IsNet loA hiA w nA A) (hhiA : hiA ≤ w.heap.size) (hnA : totN A ≤ 1048576) (hS : Ints loS hiS w aS cS S) (hhiS : hiS ≤ w.heap.size) (hnS : S.length ≤ 1048576) (hf : Fits m A) (hso : SOk m A S) :
    Fn Tryz.prog 69 #[machV nm m, netV nA A, .slice aS S.length cS] w (fun v w' => ∃ a', v = .slice a' (bxs m A S).length (bxs m A S).length ∧ RowsH w.heap.size w'.heap.size w' 3 a' (bxs m A S).length (bxs m A S) ∧ Ext w w') := by
  have hmm : totL m.start + totL m.send + totC m.clauses + m.output.length ≤ 1048576 := hnm
  have hqA := totL_len A.ends
  have hmA : totL A.ends + A.ids.length + A.inputs.length ≤ 1048576 := hnA
  have hkm := hf.1
  have hkA := hf.2.1
  have hnd := hkA.nodes
  have hsl := hso.len
  have hst := hkm.states
  have hol := hkm.outLen
  have hcl := hkm.clLen
  have hdg := hkm.deg
  have hE := Ext.refl w
  refine Fn_of Tryz.func69 rfl rfl (by kernel_rfl) rfl ?_
  refine W_seq ?_
  refine W_region ?_
  refine WL_m rfl (ev_box rfl) ?_
  rintro _ w3 ⟨rfl, hN3⟩
  have hz3 := hN3.size
  replace hE := hE.trans hN3.ext
  replace hm := hm.ext hN3.ext
  replace hA := hA.ext hN3.ext
  replace hS := hS.ext hN3.ext
  have hB3 : Blk w3 _ _ [_, _, _, _, _, _, _] := hN3.blk
  refine WL_m rfl (ev_box rfl) ?_
  rintro _ w4 ⟨rfl, hN4⟩
  have hz4 := hN4.size
  replace hE := hE.trans hN4.ext
  replace hm := hm.ext hN4.ext
  replace hA := hA.ext hN4.ext
  replace hS := hS.ext hN4.ext
  replace hB3 := hB3.ext hN4.ext
  have hB4 : Blk w4 _ _ [_, _, _] := hN4.blk
  refine WL_q rfl (ev_assign rfl) ?_
  refine WL_nil ?_
  refine thenE_n ?_
  refine W_seq ?_
  refine W_region ?_
  refine WL_q rfl (ev_fieldAddr fo40_0 rfl) ?_
  refine WL_q rfl (ev_load one38 rfl (hB4.cell rfl)) ?_
  refine WL_q rfl (ev_len Tryz.underlying38 rfl) ?_
  refine WL_m rfl (ev_makeN Tryz.underlying22 el24 rfl rfl rfl (by omega) (by omega)) ?_
  rintro _ w15 ⟨rfl, hN15⟩
  have hz15 := hN15.size
  replace hE := hE.trans hN15.ext
  replace hm := hm.ext hN15.ext
  replace hA := hA.ext hN15.ext
  replace hS := hS.ext hN15.ext
  replace hB3 := hB3.ext hN15.ext
  replace hB4 := hB4.ext hN15.ext
  have hB15 := hN15.blk
  have hR0 := ORows.made (f := intF) (sz := 1) (E := 3) hB15 (Nat.le_refl _) hB15.lt
  refine WL_q rfl (ev_assign rfl) ?_
  refine WL_nil ?_
  refine thenE_n ?_
  refine W_seq ?_
  refine W_seq ?_
  refine W_region ?_
  refine WL_q rfl (ev_fieldAddr fo40_0 rfl) ?_
  refine WL_q rfl (ev_load one38 rfl (hB4.cell rfl)) ?_
  refine WL_q rfl (ev_len Tryz.underlying38 rfl) ?_
  refine WL_q rfl (ev_move rfl) ?_
  refine WL_nil ?_
  refine thenE_n ?_
  refine W_block ?_
  refine W_loopC (G := Nat) [(2, _), (3, _), (7, _), (17, _), (18, _)] ((Subs.c rfl (Subs.c rfl (Subs.c rfl (Subs.c rfl (Subs.c rfl Subs.n)))))) (fun i => [(19, VI (i : Int))]) (fun i w' => Lo (w4.heap.size) w15 w' ∧ i ≤ A.ends.length ∧ ORows intF 1 w4.heap.size w'.heap.size w' 3 w4.heap.size (bxj m A S  i 0)) (fun i => A.ends.length - i) 0 ((Subs.c (lkI rfl (by omega)) Subs.n)) (⟨Lo.refl (by omega), ⟨by omega, by rw [bxj_zero]; exact hR0⟩⟩) ?_
  rintro i wL0 ⟨hRL0, hi', hR⟩
  have hzL0 := hRL0.size
  replace hm := hm.lo hRL0 (by omega)
  replace hA := hA.lo hRL0 (by omega)
  replace hS := hS.lo hRL0 (by omega)
  replace hB3 := hB3.lo hRL0 (by omega)
  replace hB4 := hB4.lo hRL0 (by omega)
  replace hE := hE.lo hRL0 (by omega)
  refine W_seq ?_
  refine W_region ?_
  refine WL_q rfl (ev_lss rfl rfl) ?_
  refine WL_nil ?_
  refine thenE_n ?_
  refine W_seq ?_
  refine W_cond rfl (fun hg20 => ?_) (fun hg20 => ?_)
  · have hp20 := of_decide_eq_true hg20
    refine W_skip ?_
    refine thenE_n ?_
    refine W_seq ?_
    refine W_block ?_
    refine W_seq ?_
    refine W_region ?_
    refine WL_q rfl (ev_move rfl) ?_
    have hlt : i < A.ends.length := by omega
    have hil := inbox_len (m := m) (S := S) hlt
    have hdv := hf.2.2.1 _ hlt
    have hl22 : i < A.ends.length := by omega
    have ht22 := totL_le hl22
    obtain ⟨a22, c22, hc22, hr22⟩ := hA.ends.row hl22
    refine WL_q rfl (ev_indexAddr Tryz.underlying38 sz80 rfl rfl (hA.ends.isSome (by omega)) (by omega) (by omega)) ?_
    refine WL_q rfl (ev_load one80 rfl (hc22)) ?_
    refine WL_q rfl (ev_assign rfl) ?_
    refine WL_q rfl (ev_assign rfl) ?_
    refine WL_nil ?_
    refine thenE_n ?_
    refine W_seq ?_
    refine W_region ?_
    refine WL_q rfl (ev_move rfl) ?_
    refine WL_q rfl (ev_len Tryz.underlying80 rfl) ?_
    refine WL_q rfl (ev_move rfl) ?_
    refine WL_nil ?_
    refine thenE_n ?_
    refine W_block ?_
    refine W_loopC (G := Nat) [(2, _), (3, _), (7, _), (8, _), (17, _), (18, _), (19, _), (24, _), (25, _)] ((Subs.c rfl (Subs.c rfl (Subs.c rfl (Subs.c rfl (Subs.c rfl (Subs.c rfl (Subs.c rfl (Subs.c rfl (Subs.c rfl Subs.n)))))))))) (fun j => [(26, VI (j : Int))]) (fun j w' => Lo (w4.heap.size) wL0 w' ∧ j ≤ A.ends[i].length ∧ ORows intF 1 w4.heap.size w'.heap.size w' 3 w4.heap.size (bxj m A S  i j)) (fun j => A.ends[i].length - j) 0 ((Subs.c (lkI rfl (by omega)) Subs.n)) (⟨Lo.refl (by omega), ⟨by omega, hR⟩⟩) ?_
    rintro j wL2 ⟨hRL2, hj', hR⟩
    have hzL2 := hRL2.size
    replace hm := hm.lo hRL2 (by omega)
    replace hA := hA.lo hRL2 (by omega)
    replace hS := hS.lo hRL2 (by omega)
    replace hB3 := hB3.lo hRL2 (by omega)
    replace hB4 := hB4.lo hRL2 (by omega)
    replace hr22 := hr22.lo hRL2 (by omega)
    replace hE := hE.lo hRL2 (by omega)
    replace hRL0 := hRL0.lo hRL2 (by omega)
    refine W_seq ?_
    refine W_region ?_
    refine WL_q rfl (ev_lss rfl rfl) ?_
    refine WL_nil ?_
    refine thenE_n ?_
    refine W_seq ?_
    refine W_cond rfl (fun hg27 => ?_) (fun hg27 => ?_)
    · have hp27 := of_decide_eq_true hg27
      refine W_skip ?_
      refine thenE_n ?_
      refine W_seq ?_
      refine W_block ?_
      refine W_seq ?_
      refine W_region ?_
      have hlt2 : j < A.ends[i].length := by omega
      have hpt := hf.port hso (v := i) (j := j) (by omega) (by omega)
      obtain ⟨hp1, hp2, hp3, hp4, hp5, hp6⟩ := hpt
      refine WL_q rfl (ev_indexAddr Tryz.underlying80 sz89 rfl rfl (hr22.isSome (by omega)) (by omega) (by omega)) ?_
      refine WL_q rfl (ev_loads st89 sz89 rfl (hr22.cells (i := j) (by omega)) rfl) ?_
      refine WL_m rfl (ev_alloc zr89) ?_
      rintro _ w11 ⟨rfl, hN11⟩
      have hz11 := hN11.size
      replace hE := hE.trans hN11.ext
      replace hRL0 := hRL0.trans hN11.ext
      replace hRL2 := hRL2.trans hN11.ext
      replace hm := hm.ext hN11.ext
      replace hA := hA.ext hN11.ext
      replace hS := hS.ext hN11.ext
      replace hB3 := hB3.ext hN11.ext
      replace hB4 := hB4.ext hN11.ext
      replace hr22 := hr22.ext hN11.ext
      replace hR := hR.ext hN11.ext
      have hB11 : Blk w11 _ _ [_, _] := hN11.blk
      refine WL_s (ev_stores sz89 rfl rfl rfl (by simp [Value.oneCell']) hB11 (by simp)) ?_
      rintro _ w7_3 hS7_3
      have hz7_3 := hS7_3.size
      replace hE := hE.sto hS7_3 (by omega)
      replace hRL0 := hRL0.sto hS7_3 (by omega)
      replace hRL2 := hRL2.sto hS7_3 (by omega)
      replace hm := hm.sto hS7_3 (by omega)
      replace hA := hA.sto hS7_3 (by omega)
      replace hS := hS.sto hS7_3 (by omega)
      replace hB3 := hB3.sto hS7_3 (by omega)
      replace hB4 := hB4.sto hS7_3 (by omega)
      replace hr22 := hr22.sto hS7_3 (by omega)
      replace hR := hR.sto hS7_3 (by omega)
      replace hB11 : Blk w7_3 _ _ [_, _] := hS7_3.blk
      refine WL_nil ?_
      refine thenE_n ?_
      refine W_drawZ 22 (w4.heap.size + 1) wL2.heap.size 0 0 (fun w' => True) [(0, true), (1, true), (2, true), (3, true), (4, true), (5, true), (6, true), (7, true), (8, true), (9, true), (10, true), (11, true), (12, true), (13, true), (14, true), (15, true), (16, true), (17, true), (18, true), (19, false), (20, false), (21, true), (22, false)] mixed (by kernel_rfl) rfl (by kernel_rfl) (fun _ _ => trivial) ?_
      intro wd8 hEd8 hzd8
      replace hE := hE.trans hEd8
      replace hRL0 := hRL0.trans hEd8
      replace hRL2 := hRL2.trans hEd8
      replace hm := hm.ext hEd8
      replace hA := hA.ext hEd8
      replace hS := hS.ext hEd8
      replace hB3 := hB3.ext hEd8
      replace hB4 := hB4.ext hEd8
      replace hr22 := hr22.ext hEd8
      replace hR := hR.ext hEd8
      replace hB11 := hB11.ext hEd8
      obtain ⟨T, vs, hlo, hhi9, hBk, hOA⟩ := hR
      have hvl := hOA.len
      have hbl := bxj_len m A S i j
      have hvx : i < (bxj m A S i j).length := by omega
      have hv3 : i < vs.length := by omega
      have hO := hOA.own _ hv3 hvx
      have htp := hOA.top _ hv3
      have hbr := bxj_row (m := m) (A := A) (S := S) (i := i) (j := j) (h := hvx)
      have hbq : ((bxj m A S i j)[i]).length ≤ j := by rw [hbr]; simp; omega
      have htq : ∀ q, vs[i].1 = some q → w4.heap.size + 1 ≤ q.block ∧ q.block < wL2.heap.size := fun q hq => ⟨(hO.block q hq).1, htp q hq⟩
      have hDd8 := (Rg.refl : Rg (w4.heap.size + 1) wL2.heap.size 0 0 wd8 wd8)
      refine PZ_q rfl rfl rfl (fun wq hq => ev_move rfl) ?_
      refine PZ_q rfl rfl rfl (fun wq hq => ev_move rfl) ?_
      refine PZ_q rfl rfl rfl (fun wq hq => ev_move rfl) ?_
      refine PZ_q rfl rfl rfl (fun wq hq => ev_move rfl) ?_
      refine PZ_q rfl rfl rfl (fun wq hq => ev_indexAddr Tryz.underlying22 sz24 rfl rfl rfl (by omega) (by omega)) ?_
      refine PZ_q rfl rfl rfl (fun wq hq => ev_load one24 rfl (hq.1.cell' (zip_cell hBk hvl hvx) (by omega))) ?_
      refine PZ_q rfl rfl rfl (fun wq hq => ev_fieldAddr fo36_4 rfl) ?_
      refine PZ_q rfl rfl rfl (fun wq hq => ev_load one22 rfl ((hB3.rg hq.1 (by omega)).cell rfl)) ?_
      refine PZ_q rfl rfl rfl (fun wq hq => ev_move rfl) ?_
      refine PZ_q rfl rfl rfl (fun wq hq => ev_fieldAddr fo89_0 rfl) ?_
      refine PZ_q rfl rfl rfl (fun wq hq => ev_load one3 rfl ((hB11.rg hq.1 (by omega)).cell rfl)) ?_
      refine PZ_q rfl rfl rfl (fun wq hq => ev_indexAddr Tryz.underlying24 sz3 rfl rfl (hS.isSome (by omega)) (by omega) (by omega)) ?_
      refine PZ_q rfl rfl rfl (fun wq hq => ev_load one3 rfl ((hS.rg hq.1 (by omega)).cellJ (i := A.ends[i][j].1.toNat) (j := A.ends[i][j].1.toNat) (by omega) (by omega))) ?_
      have hl43 : S[A.ends[i][j].1.toNat].toNat < m.send.length := by omega
      have ht43 := totL_le hl43
      obtain ⟨a43, c43, hc43, hr43⟩ := hm.send.row hl43
      refine PZ_q rfl rfl rfl (fun wq hq => ev_indexAddr Tryz.underlying22 sz24 rfl rfl (hm.send.isSome (by omega)) (by omega) (by omega)) ?_
      refine PZ_q rfl rfl rfl (fun wq hq => ev_load one24 rfl (hq.1.cell' hc43 (by have := hm.send.rng (Nat.lt_of_le_of_lt (Nat.zero_le _) hl43); omega))) ?_
      refine PZ_q rfl rfl rfl (fun wq hq => ev_fieldAddr fo89_1 rfl) ?_
      refine PZ_q rfl rfl rfl (fun wq hq => ev_load one3 rfl ((hB11.rg hq.1 (by omega)).cell rfl)) ?_
      refine PZ_q rfl rfl rfl (fun wq hq => ev_indexAddr Tryz.underlying24 sz3 rfl rfl (hr43.isSome (by omega)) (by omega) (by omega)) ?_
      refine PZ_q rfl rfl rfl (fun wq hq => ev_load one3 rfl ((hr43.rg hq.1 (by omega)).cellJ (i := A.ends[i][j].2.toNat) (j := A.ends[i][j].2.toNat) (by omega) (by omega))) ?_
      refine PZ_m rfl rfl rfl (ev_lit1 Tryz.underlying24 el3 (by decide) (by decide) rfl rfl) ?_
      rintro _ w49 ⟨rfl, hN49⟩
      have hz49 := hN49.size
      replace hE := hE.trans hN49.ext
      replace hRL0 := hRL0.trans hN49.ext
      replace hRL2 := hRL2.trans hN49.ext
      replace hDd8 := hDd8.trans hN49.ext
      replace hOA := hOA.ext hN49.ext
      replace hO := hO.ext hN49.ext
      have hB49 := hN49.blk
      refine ⟨⟨hDd8, trivial⟩, ?_⟩
      have hm_20 := hm.rg hDd8 (by omega)
      have hA_20 := hA.rg hDd8 (by omega)
      have hS_20 := hS.rg hDd8 (by omega)
      have hB3_20 := hB3.rg hDd8 (by omega)
      have hB4_20 := hB4.rg hDd8 (by omega)
      have hr22_20 := hr22.rg hDd8 (by omega)
      have hB11_20 := hB11.rg hDd8 (by omega)
      have hBk_20 := hBk.rg hDd8 (by omega)
      have hr43_20 := hr43.rg hDd8 (by omega)
      refine PZ_m rfl rfl rfl (ev_append Tryz.underlying24 el3 rfl (by decide) rfl rfl hO (SAt.of_blk (cs := [_]) (ds := []) hB49) rfl (by simp [Value.oneCell']) (by omega) (by unfold maxLen; omega) (by omega)) ?_
      rintro _ w50 ⟨a50, c50, rfl, hO50, hK50, hQ50⟩
      have hz50 := hK50.size
      replace hE := hE.app hK50 (fun q hq => by have := htq q hq; omega)
      replace hRL0 := hRL0.app hK50 (fun q hq => by have := htq q hq; omega)
      replace hRL2 := hRL2.app hK50 (fun q hq => by have := htq q hq; omega)
      replace hDd8 := hDd8.app hK50 (fun q hq => by have := htq q hq; omega)
      replace hO := hO50
      refine ⟨⟨hDd8, trivial⟩, ?_⟩
      refine PZ_q rfl rfl rfl (fun wq hq => ev_indexAddr Tryz.underlying22 sz24 rfl rfl rfl (by omega) (by omega)) ?_
      replace hm := hm.rg hDd8 (by omega)
      replace hA := hA.rg hDd8 (by omega)
      replace hS := hS.rg hDd8 (by omega)
      replace hB3 := hB3.rg hDd8 (by omega)
      replace hB4 := hB4.rg hDd8 (by omega)
      replace hr22 := hr22.rg hDd8 (by omega)
      replace hB11 := hB11.rg hDd8 (by omega)
      replace hBk := hBk.rg hDd8 (by omega)
      replace hr43 := hr43.rg hDd8 (by omega)
      refine PZ_z rfl (ev_store sz24 rfl rfl rfl hBk (by simp; omega)) ?_
      rintro _ w8_22 hS8_22
      have hz8_22 := hS8_22.size
      replace hE := hE.sto hS8_22 (by omega)
      replace hRL0 := hRL0.sto hS8_22 (by omega)
      replace hRL2 := hRL2.sto hS8_22 (by omega)
      replace hm := hm.sto hS8_22 (by omega)
      replace hA := hA.sto hS8_22 (by omega)
      replace hS := hS.sto hS8_22 (by omega)
      replace hB3 := hB3.sto hS8_22 (by omega)
      replace hB4 := hB4.sto hS8_22 (by omega)
      replace hr22 := hr22.sto hS8_22 (by omega)
      replace hB11 := hB11.sto hS8_22 (by omega)
      replace hr43 := hr43.sto hS8_22 (by omega)
      replace hO := hO.sto hS8_22 (by omega)
      replace hBk := hS8_22.blk
      have hR2 := ORows.put (ys := (bxj m A S i j)[i] ++ [m.send[S[A.ends[i][j].1.toNat].toNat][A.ends[i][j].2.toNat]]) hlo hOA (by omega) hv3 hK50 (own_snocF hO50) (by simp) hQ50 hS8_22 (by omega) hBk
      refine PW_nil ?_
      refine blockE_n ?_
      refine thenE_n ?_
      refine W_region ?_
      refine WL_q rfl (ev_add rfl rfl (by omega)) ?_
      refine WL_q rfl (ev_move rfl) ?_
      refine WL_nil ?_
      refine thenE_n ?_
      exact ⟨j + 1, (Subs.c rfl (Subs.c rfl (Subs.c rfl (Subs.c rfl (Subs.c rfl (Subs.c rfl (Subs.c rfl (Subs.c rfl (Subs.c rfl Subs.n))))))))), (Subs.c (lkI rfl (by omega)) Subs.n), ⟨hRL2, ⟨by omega, by rw [bxj_put hvx (by omega) (inbox_at hlt hlt2 (h1 := hp3) (h2 := hp5) (h3 := hp6))] at hR2; exact hR2⟩⟩, by first | omega | (dsimp only; omega)⟩
    · have hp27 := of_decide_eq_false hg27
      refine W_exit ?_
      refine thenE_x ?_
      refine thenE_x ?_
      refine blockE_hit ?_
      refine blockE_n ?_
      refine thenE_n ?_
      refine W_region ?_
      refine WL_q rfl (ev_add rfl rfl (by omega)) ?_
      refine WL_q rfl (ev_move rfl) ?_
      refine WL_nil ?_
      refine thenE_n ?_
      exact ⟨i + 1, (Subs.c rfl (Subs.c rfl (Subs.c rfl (Subs.c rfl (Subs.c rfl Subs.n))))), (Subs.c (lkI rfl (by omega)) Subs.n), ⟨hRL0, ⟨by omega, by rw [← bxj_next (j := j) (by omega)]; exact hR⟩⟩, by first | omega | (dsimp only; omega)⟩
  · have hp20 := of_decide_eq_false hg20
    refine W_exit ?_
    refine thenE_x ?_
    refine thenE_x ?_
    refine blockE_hit ?_
    refine thenE_n ?_
    refine W_seq ?_
    refine W_region ?_
    refine WL_q rfl (ev_move rfl) ?_
    refine WL_q rfl (ev_assign rfl) ?_
    refine WL_nil ?_
    refine thenE_n ?_
    refine W_ret ?_
    refine ret1 rfl rfl ?_
    exact ⟨_, by rw [bxs_len], by rw [bxj_all (by omega)] at hR; exact (RowsH.of_orows hR (by rw [bxs_len]; unfold maxLen; omega)).up (by omega) (Nat.le_refl _), hE⟩

end Go.Proofs.YtebjcbgencenbaaGreat
