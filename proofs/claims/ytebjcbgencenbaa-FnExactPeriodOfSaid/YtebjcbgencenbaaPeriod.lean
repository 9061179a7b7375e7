/- Contracts of PeriodOf, of the program and of the reference; the walk of its law. -/
import Derived.Test.YtebjcbgencenbaaRunM
import Derived.Test.YtebjcbgencenbaaStrs
import Derived.Test.YtebjcbgencenbaaDrawV
namespace Go.Proofs.Ytebjcbgencenbaa
open Go Go.RowKit

theorem slaw : Maps.Keyed Try.prog 9 := Maps.string_keyed (by kernel_rfl)
/-- The states of the rounds before k, as keys, with their rounds. -/
noncomputable def pkv (m : Mach) (A : Net) (k : Nat) : List (ByteArray × Int) := (List.range k).map fun j => (strOfNums (stN m A j), (j : Int))
/-- No two of the rounds before k have the same states. -/
def NoRep (m : Mach) (A : Net) (k : Nat) : Prop := ∀ i j, i < j → j < k → stN m A i ≠ stN m A j
theorem SOk.bytes {m : Mach} {A : Net} {S : List Int} (hm : MOk m) (h : SOk m A S) : ∀ x ∈ S, 0 ≤ x ∧ x ≤ 255 := fun x hx => by
  have h1 := allR_true.1 h.2 x hx
  have h2 := hm.states
  omega
theorem pkv_succ {m : Mach} {A : Net} {k : Nat} : pkv m A k ++ [(strOfNums (stN m A k), (k : Int))] = pkv m A (k + 1) := by
  unfold pkv
  rw [List.range_succ, List.map_append]; rfl
theorem pkv_look {m : Mach} {A : Net} (hf : Fits m A) {k : Nat} (hn : NoRep m A k) {v : Int} (h : alook (pkv m A k) (strOfNums (stN m A k)) = some v) : ∃ i : Nat, i < k ∧ stN m A i = stN m A k ∧ v = (i : Int) := by
  unfold alook at h
  rw [Option.map_eq_some_iff] at h
  obtain ⟨p, hp, rfl⟩ := h
  have h1 := List.mem_of_find?_eq_some hp
  have h2 := List.find?_some hp
  obtain ⟨i, hi, rfl⟩ := List.mem_map.1 h1
  refine ⟨i, List.mem_range.1 hi, ?_, rfl⟩
  exact strOfNums_inj ((stN_ok hf i).bytes hf.1) ((stN_ok hf k).bytes hf.1) (of_decide_eq_true h2)
theorem pkv_none {m : Mach} {A : Net} {k : Nat} (hn : NoRep m A k) (h : (alook (pkv m A k) (strOfNums (stN m A k))).isSome = false) : NoRep m A (k + 1) := by
  intro i j hij hj
  rcases Nat.lt_or_ge j k with h1 | h1
  · exact hn i j hij h1
  · have : j = k := by omega
    subst this
    intro e
    have h2 := alook_none.1 (Option.not_isSome_iff_eq_none.1 (by rw [h]; simp))
    exact h2 (strOfNums (stN m A i), (i : Int)) (List.mem_map.2 ⟨i, List.mem_range.2 hij, rfl⟩) (by rw [e])
theorem alook_get {kvs : List (ByteArray × Int)} {k : ByteArray} (h : (alook kvs k).isSome = true) : alook kvs k = some ((alook kvs k).getD 0) := by
  cases e : alook kvs k with
  | none => rw [e] at h; cases h
  | some v => rfl
/-- After how many rounds the states repeat, and their period. -/
def PR (m : Mach) (A : Net) (n r p : Int) (q : Bool) : Prop :=
  (∃ i k : Nat, (Fits m A ∧ inR n 0 2000 = true) ∧ i < k ∧ (k : Int) ≤ n ∧ stN m A i = stN m A k ∧ NoRep m A k ∧ r = (i : Int) ∧ p = (k : Int) - (i : Int) ∧ q = true) ∨
  ((∀ k : Nat, Fits m A → inR n 0 2000 = true → (k : Int) ≤ n → NoRep m A (k + 1)) ∧ r = 0 ∧ p = 0 ∧ q = false)
theorem PR.det {m : Mach} {A : Net} {n r r' p p' : Int} {q q' : Bool} (h : PR m A n r p q) (k : PR m A n r' p' q') : r = r' ∧ p = p' ∧ q = q' := by
  rcases h with ⟨i, j, h0, h1, h2, h3, h4, h5, h6, h7⟩ | ⟨h1, h5, h6, h7⟩ <;> rcases k with ⟨s, t, k0, k1, k2, k3, k4, k5, k6, k7⟩ | ⟨k1, k5, k6, k7⟩
  · have e : j = t := by
      rcases Nat.lt_trichotomy j t with h | h | h
      · exact absurd h3 (k4 i j h1 h)
      · exact h
      · exact absurd k3 (h4 s t k1 h)
    subst e
    have e : i = s := by
      rcases Nat.lt_trichotomy i s with h | h | h
      · exact absurd (h3.trans k3.symm) (h4 i s h k1)
      · exact h
      · exact absurd (k3.trans h3.symm) (h4 s i h h1)
    subst e
    exact ⟨by rw [h5, k5], by rw [h6, k6], by rw [h7, k7]⟩
  · exact absurd h3 (k1 j h0.1 h0.2 h2 i j h1 (by omega))
  · exact absurd k3 (h1 t k0.1 k0.2 k2 s t k1 (by omega))
  · exact ⟨by rw [h5, k5], by rw [h6, k6], by rw [h7, k7]⟩
theorem PR.det1 {m : Mach} {A : Net} {n r r' p p' : Int} {q q' : Bool} (h : PR m A n r p q) (k : PR m A n r' p' q') : r = r' := (h.det k).1
theorem PR.det2 {m : Mach} {A : Net} {n r r' p p' : Int} {q q' : Bool} (h : PR m A n r p q) (k : PR m A n r' p' q') : p = p' := (h.det k).2.1
theorem PR.det3 {m : Mach} {A : Net} {n r r' p p' : Int} {q q' : Bool} (h : PR m A n r p q) (k : PR m A n r' p' q') : q = q' := (h.det k).2.2
theorem PR.no {m : Mach} {A : Net} {n : Int} (h : ¬ (Fits m A ∧ inR n 0 2000 = true)) : PR m A n 0 0 false := .inr ⟨fun k h1 h2 => absurd ⟨h1, h2⟩ h, rfl, rfl, rfl⟩
theorem PR.none {m : Mach} {A : Net} {n : Int} {k : Nat} (h : NoRep m A k) (hk : n < (k : Int)) : PR m A n 0 0 false := .inr ⟨fun j _ _ hj i s his hs => h i s his (by omega), rfl, rfl, rfl⟩
theorem PR.at {m : Mach} {A : Net} {n r : Int} {i k : Nat} (h : Fits m A ∧ inR n 0 2000 = true) (h1 : i < k) (h2 : (k : Int) ≤ n) (h3 : stN m A i = stN m A k) (h4 : NoRep m A k) (hr : r = (i : Int)) : PR m A n r ((k : Int) - r) true := .inl ⟨i, k, h, h1, h2, h3, h4, hr, by rw [hr], rfl⟩
theorem str_size (xs : List Int) (h : xs.length ≤ 1048576) : (strOfNums xs).size ≤ maxLen := by rw [strOfNums_size]; unfold maxLen; omega
theorem noRep_zero (m : Mach) (A : Net) : NoRep m A 0 := fun i j h h2 => by omega
theorem noRep_one (m : Mach) (A : Net) : NoRep m A 1 := fun i j h h2 => by omega
theorem noRep_row {m : Mach} {A : Net} {k : Nat} (h : NoRep m A (k + 1)) (h2 : ∀ j, j < k + 1 → stN m A j ≠ stN m A (k + 1)) : NoRep m A (k + 2) := by
  intro i j hij hj
  rcases Nat.lt_or_ge j (k + 1) with h3 | h3
  · exact h i j hij h3
  · have : j = k + 1 := by omega
    subst this; exact h2 i hij

set_option maxRecDepth 100000 in
theorem statesKey_spec {lo hi : Nat} (a : Option Addr) (c : Nat) (S : List Int) (w : World) (hx : Ints lo hi w a c S) (hm : S.length ≤ 1048576) (h0 : 0 < S.length) (hr : ∀ x ∈ S, 0 ≤ x ∧ x ≤ 255) (hhi : hi ≤ w.heap.size) :
    Fn Try.prog 83 #[.slice a S.length c] w (fun v w' => v = .string (strOfNums S) ∧ Ext w w') := by
  have hE := Ext.refl w
  refine Fn_of Try.func83 rfl rfl (by kernel_rfl) rfl ?_
  refine W_seq ?_
  refine W_region ?_
  refine WL_q rfl (ev_assign rfl) ?_
  refine WL_nil ?_
  refine thenE_n ?_
  refine W_seq ?_
  refine W_region ?_
  refine WL_q rfl (ev_move rfl) ?_
  refine WL_q rfl (ev_len Try.underlying24 rfl) ?_
  refine WL_m rfl (ev_makeN Try.underlying116 el5 rfl rfl rfl (by omega) (by omega)) ?_
  rintro _ w8 ⟨rfl, hN8⟩
  have hz8 := hN8.size
  replace hE := hE.trans hN8.ext
  replace hx := hx.ext hN8.ext
  have hB8 := hN8.blk
  have hBk0 : Blk w8 w.heap.size 5 ((fillU S 0).map VU) := by rw [fillU_zero, List.map_replicate]; exact hB8
  refine WL_q rfl (ev_assign rfl) ?_
  refine WL_nil ?_
  refine thenE_n ?_
  refine W_seq ?_
  refine W_seq ?_
  refine W_region ?_
  refine WL_q rfl (ev_move rfl) ?_
  refine WL_q rfl (ev_len Try.underlying24 rfl) ?_
  refine WL_q rfl (ev_move rfl) ?_
  refine WL_nil ?_
  refine thenE_n ?_
  refine W_block ?_
  refine W_loopC (G := Nat) [(3, _), (9, _), (10, _)] ((Subs.c rfl (Subs.c rfl (Subs.c rfl Subs.n)))) (fun i => [(11, VI (i : Int))]) (fun i w' => KX (w.heap.size) w8 w' ∧ i ≤ S.length ∧ Blk w' w.heap.size 5 ((fillU S i).map VU)) (fun i => S.length - i) 0 ((Subs.c (lkI rfl (by omega)) Subs.n)) (⟨KX.refl _ _, ⟨Nat.zero_le _, hBk0⟩⟩) ?_
  rintro i wL0 ⟨hRL0, hi', hBk⟩
  have hzL0 := hRL0.size
  replace hx := hx.kx hRL0 (by omega)
  replace hE := hE.kx hRL0 (by omega)
  have hfl := fillU_len (L := S) (i := i) (by omega)
  refine W_seq ?_
  refine W_region ?_
  refine WL_q rfl (ev_lss rfl rfl) ?_
  refine WL_nil ?_
  refine thenE_n ?_
  refine W_seq ?_
  refine W_cond rfl (fun hg12 => ?_) (fun hg12 => ?_)
  · have hp12 := of_decide_eq_true hg12
    refine W_skip ?_
    refine thenE_n ?_
    refine W_seq ?_
    refine W_block ?_
    refine W_seq ?_
    refine W_region ?_
    refine WL_q rfl (ev_move rfl) ?_
    have hlt : i < S.length := by omega
    have hri := hr _ (List.getElem_mem hlt)
    refine WL_q rfl (ev_indexAddr Try.underlying24 sz3 rfl rfl (hx.isSome (by omega)) (by omega) (by omega)) ?_
    refine WL_q rfl (ev_load one3 rfl (hx.cell (i := i) (by omega))) ?_
    refine WL_q rfl (ev_assign rfl) ?_
    refine WL_q rfl (ev_assign rfl) ?_
    refine WL_nil ?_
    refine thenE_n ?_
    refine W_region ?_
    refine WL_q rfl (ev_move rfl) ?_
    refine WL_q rfl (ev_move rfl) ?_
    refine WL_q rfl (ev_move rfl) ?_
    refine WL_q rfl (ev_conv (by kernel_rfl) Try.underlying5 (by kernel_rfl) rfl (wrap_b hri)) ?_
    refine WL_q rfl (ev_indexAddr Try.underlying116 sz5 rfl rfl rfl (by omega) (by omega)) ?_
    refine WL_s (ev_store sz5 rfl rfl rfl hBk (by simp; omega)) ?_
    rintro _ w5_5 hS5_5
    have hz5_5 := hS5_5.size
    replace hE := hE.sto hS5_5 (by omega)
    replace hRL0 := hRL0.sto hS5_5 (by omega)
    replace hx := hx.sto hS5_5 (by omega)
    replace hBk := hS5_5.blk
    replace hBk := fillU_put hlt (by omega) hBk
    refine WL_nil ?_
    refine blockE_n ?_
    refine thenE_n ?_
    refine W_region ?_
    refine WL_q rfl (ev_add rfl rfl (by omega)) ?_
    refine WL_q rfl (ev_move rfl) ?_
    refine WL_nil ?_
    refine thenE_n ?_
    exact ⟨i + 1, (Subs.c rfl (Subs.c rfl (Subs.c rfl Subs.n))), (Subs.c (lkI rfl (by omega)) Subs.n), ⟨hRL0, ⟨by omega, hBk⟩⟩, by first | omega | (dsimp only; omega)⟩
  · have hp12 := of_decide_eq_false hg12
    refine W_exit ?_
    refine thenE_x ?_
    refine thenE_x ?_
    refine blockE_hit ?_
    refine thenE_n ?_
    refine W_seq ?_
    refine W_region ?_
    refine WL_q rfl (ev_move rfl) ?_
    rw [fillU_full (by omega)] at hBk
    refine WL_q rfl (ev_convBS Try.underlying116 Try.underlying5 Try.underlying9 rfl rfl (fun i hi => ucell hBk hi)) ?_
    refine WL_q rfl (ev_assign rfl) ?_
    refine WL_nil ?_
    refine thenE_n ?_
    refine W_ret ?_
    refine ret1 rfl rfl ?_
    exact ⟨rfl, hE⟩

set_option maxHeartbeats 4000000 in
set_option maxRecDepth 100000 in
theorem PeriodOf_spec {lom him : Nat} (nm : MA) (m : Mach) {loA hiA : Nat} (nA : NA) (A : Net) (k : Int) (w : World) (hm : IsMach lom him w nm m) (hhim : him ≤ w.heap.size) (hnm : totM m ≤ 1048576) (hA : IsNet loA hiA w nA A) (hhiA : hiA ≤ w.heap.size) (hnA : totN A ≤ 1048576) :
    Fn Try.prog 46 #[machV nm m, netV nA A, VI k] w (fun o9 w' => ∃ x y q, o9 = .tuple #[VI x, VI y, VB q] ∧ PR m A k x y q ∧ Ext w w') := by
  have hmm : totL m.start + totL m.send + totC m.clauses + m.output.length ≤ 1048576 := hnm
  have hqA := totL_len A.ends
  have hmA : totL A.ends + A.ids.length + A.inputs.length ≤ 1048576 := hnA
  have hs0 := stS_len m A
  have hE := Ext.refl w
  refine Fn_of Try.func46 rfl rfl (by kernel_rfl) rfl ?_
  refine W_seq ?_
  refine W_region ?_
  refine WL_m rfl (ev_box rfl) ?_
  rintro _ w3 ⟨rfl, hN3⟩
  have hz3 := hN3.size
  replace hE := hE.trans hN3.ext
  replace hm := hm.ext hN3.ext
  replace hA := hA.ext hN3.ext
  have hB3 : Blk w3 _ _ [_, _, _, _, _, _, _] := hN3.blk
  refine WL_m rfl (ev_box rfl) ?_
  rintro _ w4 ⟨rfl, hN4⟩
  have hz4 := hN4.size
  replace hE := hE.trans hN4.ext
  replace hm := hm.ext hN4.ext
  replace hA := hA.ext hN4.ext
  replace hB3 := hB3.ext hN4.ext
  have hB4 : Blk w4 _ _ [_, _, _] := hN4.blk
  refine WL_q rfl (ev_assign rfl) ?_
  refine WL_q rfl (ev_assign rfl) ?_
  refine WL_q rfl (ev_assign rfl) ?_
  refine WL_nil ?_
  refine thenE_n ?_
  refine W_seq ?_
  refine W_seq ?_
  refine W_region ?_
  refine WL_q rfl (ev_loads st36 sz36 rfl (cellsB hB3) rfl) ?_
  refine WL_q rfl (ev_loads st40 sz40 rfl (cellsB hB4) rfl) ?_
  refine WL_m rfl (ev_call rfl (fits_spec _ m _ A _ hm (by omega) (by omega) hA (by omega) (by omega))) ?_
  rintro _ w17 ⟨b17, rfl, hb17, hE17⟩
  have hz17 := hE17.size
  replace hE := hE.trans hE17
  replace hm := hm.ext hE17
  replace hA := hA.ext hE17
  replace hB3 := hB3.ext hE17
  replace hB4 := hB4.ext hE17
  refine WL_q rfl (ev_not rfl) ?_
  refine WL_q rfl (ev_move rfl) ?_
  refine WL_splitv (t := 19) rfl (fun hg18 => ?_) (fun hg18 => ?_)
  · have hg17 := not_true hg18
    have hp17 := ttN hb17 hg17
    refine WL_no rfl rfl hg18 rfl ?_
    refine WL_no rfl rfl hg18 rfl ?_
    refine WL_no rfl rfl hg18 rfl ?_
    refine WL_q rfl (ev_pick_t rfl hg18 rfl) ?_
    refine WL_nil ?_
    refine thenE_n ?_
    refine W_cond_t rfl ?_
    refine W_seq ?_
    refine W_region ?_
    refine WL_q rfl (ev_assign rfl) ?_
    refine WL_q rfl (ev_assign rfl) ?_
    refine WL_q rfl (ev_assign rfl) ?_
    refine WL_nil ?_
    refine thenE_n ?_
    refine W_ret ?_
    refine thenE_r ?_
    refine ret3 rfl rfl rfl rfl ?_
    first | (exact ⟨_, _, _, rfl, .no (fun h => hp17 h.1), hE⟩) | (exact ⟨_, _, _, rfl, .no (fun h => tf hg21 h.2), hE⟩) | (obtain ⟨j, hj1, hj2, hj3⟩ := pkv_look hp17 hNR (alook_get hg40); exact ⟨_, _, _, rfl, .at ⟨hp17, hg21⟩ hj1 (by omega) hj2 hNR hj3, hE⟩) | (exact ⟨_, _, _, rfl, .none hNR (by omega), hE⟩)
  · have hg17 := not_false hg18
    have hp17 := hb17.1 hg17
    refine WL_qg rfl rfl hg18 rfl (ev_move rfl) ?_
    refine WL_mg rfl rfl hg18 rfl (ev_call rfl (within_spec _ _ _ _)) ?_
    rintro _ _ ⟨rfl, rfl⟩
    refine WL_qg rfl rfl hg18 rfl (ev_not rfl) ?_
    refine WL_q rfl (ev_pick_f rfl hg18 rfl) ?_
    refine WL_nil ?_
    refine thenE_n ?_
    refine W_cond rfl (fun hg22 => ?_) (fun hg22 => ?_)
    · have hg21 := not_true hg22
      have hp21 := inR_false.1 hg21
      refine W_seq ?_
      refine W_region ?_
      refine WL_q rfl (ev_assign rfl) ?_
      refine WL_q rfl (ev_assign rfl) ?_
      refine WL_q rfl (ev_assign rfl) ?_
      refine WL_nil ?_
      refine thenE_n ?_
      refine W_ret ?_
      refine thenE_r ?_
      refine ret3 rfl rfl rfl rfl ?_
      first | (exact ⟨_, _, _, rfl, .no (fun h => hp17 h.1), hE⟩) | (exact ⟨_, _, _, rfl, .no (fun h => tf hg21 h.2), hE⟩) | (obtain ⟨j, hj1, hj2, hj3⟩ := pkv_look hp17 hNR (alook_get hg40); exact ⟨_, _, _, rfl, .at ⟨hp17, hg21⟩ hj1 (by omega) hj2 hNR hj3, hE⟩) | (exact ⟨_, _, _, rfl, .none hNR (by omega), hE⟩)
    · have hg21 := not_false hg22
      have hp21 := inR_true.1 hg21
      refine W_skip ?_
      refine thenE_n ?_
      refine W_seq ?_
      refine W_region ?_
      refine WL_m rfl (ev_makeMap (κ := ByteArray) (μ := Int) (K := 9) (ek := Value.string) (em := VI)) ?_
      rintro _ w24 ⟨rfl, hE24, hz24, hM24⟩
      replace hE := hE.trans hE24
      replace hm := hm.ext hE24
      replace hA := hA.ext hE24
      replace hB3 := hB3.ext hE24
      replace hB4 := hB4.ext hE24
      have hm24 := hM24.lt
      refine WL_q rfl (ev_assign rfl) ?_
      refine WL_nil ?_
      refine thenE_n ?_
      refine W_seq ?_
      refine W_region ?_
      refine WL_q rfl (ev_loads st36 sz36 rfl (cellsB hB3) rfl) ?_
      refine WL_q rfl (ev_loads st40 sz40 rfl (cellsB hB4) rfl) ?_
      have hin := inR_true.1 hg21
      have hnd := hp17.2.1.nodes
      refine WL_m rfl (ev_call rfl (startStates_spec _ m _ A _ hm (by omega) (by omega) hA (by omega) (by omega) (by assumption))) ?_
      rintro _ w27 ⟨a27, c27, rfl, hO27, hE27⟩
      have hz27 := hE27.size
      replace hE := hE.trans hE27
      replace hm := hm.ext hE27
      replace hA := hA.ext hE27
      replace hB3 := hB3.ext hE27
      replace hB4 := hB4.ext hE27
      replace hM24 := hM24.ext hE27
      refine WL_q rfl (ev_assign rfl) ?_
      refine WL_nil ?_
      refine thenE_n ?_
      refine W_seq ?_
      refine W_seq ?_
      refine W_region ?_
      refine WL_q rfl (ev_assign rfl) ?_
      refine WL_nil ?_
      refine thenE_n ?_
      refine W_block ?_
      refine W_loopC (G := Nat × Option Addr × Nat) [(2, _), (3, _), (4, _), (9, _)] ((Subs.c rfl (Subs.c rfl (Subs.c rfl (Subs.c rfl Subs.n))))) (fun ⟨i, a, c⟩ => [(10, .slice a (stN m A i).length c), (11, VI (i : Int))]) (fun ⟨i, a, c⟩ w' => Lo (w4.heap.size) w27 w' ∧ (i : Int) ≤ k + 1 ∧ OwnH w24.heap.size w'.heap.size 0 0 w' 3 1 a (stN m A i).length c ((stN m A i).map VI) ∧ Mp Try.prog 9 Value.string VI w' w17.heap.size (pkv m A i) ∧ NoRep m A i) (fun g => (k + 1).toNat - g.1) (0, _, _) ((Subs.c rfl (Subs.c (lkI rfl (by omega)) Subs.n))) (⟨Lo.refl (by omega), ⟨by omega, hO27.h.up (by omega) (by omega), hM24, noRep_zero m A⟩⟩) ?_
      rintro ⟨i, a, c⟩ wL0 ⟨hRL0, hi', hO, hMp, hNR⟩
      have hzL0 := hRL0.size
      replace hm := hm.lo hRL0 (by omega)
      replace hA := hA.lo hRL0 (by omega)
      replace hB3 := hB3.lo hRL0 (by omega)
      replace hB4 := hB4.lo hRL0 (by omega)
      replace hE := hE.lo hRL0 (by omega)
      have hso9 := stN_ok hp17 i
      have hsl := stN_len m A i
      have hby := hso9.bytes hp17.1
      refine W_seq ?_
      refine W_seq ?_
      refine W_region ?_
      refine WL_q rfl (ev_move rfl) ?_
      refine WL_q rfl (ev_move rfl) ?_
      refine WL_q rfl (ev_leq rfl rfl) ?_
      refine WL_nil ?_
      refine thenE_n ?_
      refine W_cond rfl (fun hg30 => ?_) (fun hg30 => ?_)
      · have hp30 := of_decide_eq_true hg30
        refine W_skip ?_
        refine thenE_n ?_
        refine W_seq ?_
        refine W_block ?_
        refine W_seq ?_
        refine W_region ?_
        refine WL_q rfl (ev_move rfl) ?_
        refine WL_m rfl (ev_call rfl (statesKey_spec _ _ (stN m A i) _ (ownt_is hO) (by omega) (by omega) hby (by omega))) ?_
        rintro _ w34 ⟨rfl, hE34⟩
        have hz34 := hE34.size
        replace hE := hE.trans hE34
        replace hRL0 := hRL0.trans hE34
        replace hm := hm.ext hE34
        replace hA := hA.ext hE34
        replace hB3 := hB3.ext hE34
        replace hB4 := hB4.ext hE34
        replace hO := hO.ext hE34
        replace hMp := hMp.ext hE34
        refine WL_q rfl (ev_assign rfl) ?_
        refine WL_nil ?_
        refine thenE_n ?_
        refine W_seq ?_
        refine W_seq ?_
        refine W_region ?_
        refine WL_q rfl (ev_move rfl) ?_
        refine WL_q rfl (ev_move rfl) ?_
        refine WL_q rfl (ev_lookup2I slaw str_inj Try.underlying94 zr3 rfl rfl hMp (goodK_str Try.underlying9 (str_size _ (by omega)))) ?_
        refine WL_q rfl (ev_move rfl) ?_
        refine WL_q rfl (ev_extract rfl rfl) ?_
        refine WL_q rfl (ev_extract rfl rfl) ?_
        refine WL_q rfl (ev_assign rfl) ?_
        refine WL_q rfl (ev_assign rfl) ?_
        refine WL_nil ?_
        refine thenE_n ?_
        refine W_seq ?_
        refine W_region ?_
        refine WL_q rfl (ev_move rfl) ?_
        refine WL_nil ?_
        refine thenE_n ?_
        refine W_cond rfl (fun hg40 => ?_) (fun hg40 => ?_)
        · refine W_seq ?_
          refine W_region ?_
          refine WL_q rfl (ev_move rfl) ?_
          refine WL_q rfl (ev_move rfl) ?_
          refine WL_q rfl (ev_move rfl) ?_
          refine WL_q rfl (ev_sub rfl rfl (by obtain ⟨j, hj1, hj2, hj3⟩ := pkv_look hp17 hNR (alook_get hg40); omega)) ?_
          refine WL_q rfl (ev_assign rfl) ?_
          refine WL_q rfl (ev_assign rfl) ?_
          refine WL_q rfl (ev_assign rfl) ?_
          refine WL_nil ?_
          refine thenE_n ?_
          refine W_ret ?_
          refine thenE_r ?_
          refine blockE_r ?_
          refine thenE_r ?_
          refine thenE_r ?_
          refine blockE_r ?_
          refine thenE_r ?_
          refine ret3 rfl rfl rfl rfl ?_
          first | (exact ⟨_, _, _, rfl, .no (fun h => hp17 h.1), hE⟩) | (exact ⟨_, _, _, rfl, .no (fun h => tf hg21 h.2), hE⟩) | (obtain ⟨j, hj1, hj2, hj3⟩ := pkv_look hp17 hNR (alook_get hg40); exact ⟨_, _, _, rfl, .at ⟨hp17, hg21⟩ hj1 (by omega) hj2 hNR hj3, hE⟩) | (exact ⟨_, _, _, rfl, .none hNR (by omega), hE⟩)
        · refine W_skip ?_
          refine thenE_n ?_
          refine W_seq ?_
          refine W_region ?_
          refine WL_q rfl (ev_move rfl) ?_
          refine WL_q rfl (ev_move rfl) ?_
          refine WL_q rfl (ev_move rfl) ?_
          refine WL_s (ev_mapNew slaw str_inj Try.underlying94 rfl rfl rfl hMp (goodK_str Try.underlying9 (str_size _ (by omega))) (alook_not hg40)) ?_
          rintro _ w12_3 ⟨hK12_3, hz12_3, hM12_3⟩
          replace hE := hE.kx hK12_3 (by omega)
          replace hRL0 := hRL0.kx hK12_3 (by omega)
          replace hm := hm.kx hK12_3 (by omega)
          replace hA := hA.kx hK12_3 (by omega)
          replace hB3 := hB3.kx hK12_3 (by omega)
          replace hB4 := hB4.kx hK12_3 (by omega)
          replace hO := hO.kx hK12_3 (by omega)
          replace hMp := hM12_3
          refine WL_nil ?_
          refine thenE_n ?_
          refine W_region ?_
          refine WL_q rfl (ev_loads st36 sz36 rfl (cellsB hB3) rfl) ?_
          refine WL_q rfl (ev_loads st40 sz40 rfl (cellsB hB4) rfl) ?_
          refine WL_q rfl (ev_move rfl) ?_
          refine WL_m rfl (ev_call rfl (stepStates_spec _ m _ A _ _ (stN m A i) _ hm (by omega) (by omega) hA (by omega) (by omega) (ownt_i hO) (by omega) (by omega) (by assumption) (by assumption))) ?_
          rintro _ w52 ⟨a52, c52, rfl, hO52, hE52⟩
          have hz52 := hE52.size
          replace hE := hE.trans hE52
          replace hRL0 := hRL0.trans hE52
          replace hm := hm.ext hE52
          replace hA := hA.ext hE52
          replace hB3 := hB3.ext hE52
          replace hB4 := hB4.ext hE52
          replace hO := hO.ext hE52
          replace hMp := hMp.ext hE52
          refine WL_q rfl (ev_assign rfl) ?_
          refine WL_nil ?_
          refine blockE_n ?_
          refine thenE_n ?_
          refine W_region ?_
          refine WL_q rfl (ev_move rfl) ?_
          refine WL_q rfl (ev_add rfl rfl (by omega)) ?_
          refine WL_q rfl (ev_assign rfl) ?_
          refine WL_nil ?_
          refine thenE_n ?_
          exact ⟨(i + 1, a52, c52), (Subs.c rfl (Subs.c rfl (Subs.c rfl (Subs.c rfl Subs.n)))), (Subs.c (lkS rfl (by first | rfl | simp | (simp; omega) | omega)) (Subs.c (lkI rfl (by omega)) Subs.n)), ⟨hRL0, ⟨by omega, hO52.h.up (by omega) (Nat.le_refl _), by rw [← pkv_succ]; exact hMp, pkv_none hNR hg40⟩⟩, by first | omega | (dsimp only; omega)⟩
      · have hp30 := of_decide_eq_false hg30
        refine W_exit ?_
        refine thenE_x ?_
        refine thenE_x ?_
        refine blockE_hit ?_
        refine thenE_n ?_
        refine W_seq ?_
        refine W_region ?_
        refine WL_q rfl (ev_assign rfl) ?_
        refine WL_q rfl (ev_assign rfl) ?_
        refine WL_q rfl (ev_assign rfl) ?_
        refine WL_nil ?_
        refine thenE_n ?_
        refine W_ret ?_
        refine ret3 rfl rfl rfl rfl ?_
        first | (exact ⟨_, _, _, rfl, .no (fun h => hp17 h.1), hE⟩) | (exact ⟨_, _, _, rfl, .no (fun h => tf hg21 h.2), hE⟩) | (obtain ⟨j, hj1, hj2, hj3⟩ := pkv_look hp17 hNR (alook_get hg40); exact ⟨_, _, _, rfl, .at ⟨hp17, hg21⟩ hj1 (by omega) hj2 hNR hj3, hE⟩) | (exact ⟨_, _, _, rfl, .none hNR (by omega), hE⟩)

set_option maxHeartbeats 4000000 in
set_option maxRecDepth 100000 in
theorem sPeriodOf_spec {lom him : Nat} (nm : MA) (m : Mach) {loA hiA : Nat} (nA : NA) (A : Net) (k : Int) (w : World) (hm : IsMach lom him w nm m) (hhim : him ≤ w.heap.size) (hnm : totM m ≤ 1048576) (hA : IsNet loA hiA w nA A) (hhiA : hiA ≤ w.heap.size) (hnA : totN A ≤ 1048576) :
    Fn Try.prog 45 #[machV nm m, netV nA A, VI k] w (fun o9 w' => ∃ x y q, o9 = .tuple #[VI x, VI y, VB q] ∧ PR m A k x y q ∧ Ext w w') := by
  have hmm : totL m.start + totL m.send + totC m.clauses + m.output.length ≤ 1048576 := hnm
  have hqA := totL_len A.ends
  have hmA : totL A.ends + A.ids.length + A.inputs.length ≤ 1048576 := hnA
  have hs0 := stS_len m A
  have hE := Ext.refl w
  refine Fn_of Try.func45 rfl rfl (by kernel_rfl) rfl ?_
  refine W_seq ?_
  refine W_region ?_
  refine WL_m rfl (ev_box rfl) ?_
  rintro _ w3 ⟨rfl, hN3⟩
  have hz3 := hN3.size
  replace hE := hE.trans hN3.ext
  replace hm := hm.ext hN3.ext
  replace hA := hA.ext hN3.ext
  have hB3 : Blk w3 _ _ [_, _, _, _, _, _, _] := hN3.blk
  refine WL_m rfl (ev_box rfl) ?_
  rintro _ w4 ⟨rfl, hN4⟩
  have hz4 := hN4.size
  replace hE := hE.trans hN4.ext
  replace hm := hm.ext hN4.ext
  replace hA := hA.ext hN4.ext
  replace hB3 := hB3.ext hN4.ext
  have hB4 : Blk w4 _ _ [_, _, _] := hN4.blk
  refine WL_q rfl (ev_assign rfl) ?_
  refine WL_q rfl (ev_assign rfl) ?_
  refine WL_q rfl (ev_assign rfl) ?_
  refine WL_nil ?_
  refine thenE_n ?_
  refine W_seq ?_
  refine W_seq ?_
  refine W_region ?_
  refine WL_q rfl (ev_loads st36 sz36 rfl (cellsB hB3) rfl) ?_
  refine WL_q rfl (ev_loads st40 sz40 rfl (cellsB hB4) rfl) ?_
  refine WL_m rfl (ev_call rfl (maAsked_spec _ m _ A _ hm (by omega) (by omega) hA (by omega) (by omega))) ?_
  rintro _ w16 ⟨b16, rfl, hb16, hE16⟩
  have hz16 := hE16.size
  replace hE := hE.trans hE16
  replace hm := hm.ext hE16
  replace hA := hA.ext hE16
  replace hB3 := hB3.ext hE16
  replace hB4 := hB4.ext hE16
  refine WL_q rfl (ev_not rfl) ?_
  refine WL_q rfl (ev_move rfl) ?_
  refine WL_splitv (t := 18) rfl (fun hg17 => ?_) (fun hg17 => ?_)
  · have hg16 := not_true hg17
    have hp16 := ttN hb16 hg16
    refine WL_no rfl rfl hg17 rfl ?_
    refine WL_no rfl rfl hg17 rfl ?_
    refine WL_no rfl rfl hg17 rfl ?_
    refine WL_q rfl (ev_pick_t rfl hg17 rfl) ?_
    refine WL_nil ?_
    refine thenE_n ?_
    refine W_cond_t rfl ?_
    refine W_seq ?_
    refine W_region ?_
    refine WL_q rfl (ev_assign rfl) ?_
    refine WL_q rfl (ev_assign rfl) ?_
    refine WL_q rfl (ev_assign rfl) ?_
    refine WL_nil ?_
    refine thenE_n ?_
    refine W_ret ?_
    refine thenE_r ?_
    refine ret3 rfl rfl rfl rfl ?_
    first | (exact ⟨_, _, _, rfl, .no (fun h => hp16 h.1), hE⟩) | (exact ⟨_, _, _, rfl, .no (fun h => tf hg20 h.2), hE⟩) | (exact ⟨_, _, _, rfl, .at ⟨hp16, hg20⟩ (k := i + 1) (i := j) (by omega) (by omega) hp49 hNR rfl, hE⟩) | (exact ⟨_, _, _, rfl, .none hNR (by omega), hE⟩)
  · have hg16 := not_false hg17
    have hp16 := hb16.1 hg16
    refine WL_qg rfl rfl hg17 rfl (ev_move rfl) ?_
    refine WL_mg rfl rfl hg17 rfl (ev_call rfl (maLong_spec _ _)) ?_
    rintro _ w20 ⟨rfl, hE20⟩
    have hz20 := hE20.size
    replace hE := hE.trans hE20
    replace hm := hm.ext hE20
    replace hA := hA.ext hE20
    replace hB3 := hB3.ext hE20
    replace hB4 := hB4.ext hE20
    refine WL_qg rfl rfl hg17 rfl (ev_not rfl) ?_
    refine WL_q rfl (ev_pick_f rfl hg17 rfl) ?_
    refine WL_nil ?_
    refine thenE_n ?_
    refine W_cond rfl (fun hg21 => ?_) (fun hg21 => ?_)
    · have hg20 := not_true hg21
      refine W_seq ?_
      refine W_region ?_
      refine WL_q rfl (ev_assign rfl) ?_
      refine WL_q rfl (ev_assign rfl) ?_
      refine WL_q rfl (ev_assign rfl) ?_
      refine WL_nil ?_
      refine thenE_n ?_
      refine W_ret ?_
      refine thenE_r ?_
      refine ret3 rfl rfl rfl rfl ?_
      first | (exact ⟨_, _, _, rfl, .no (fun h => hp16 h.1), hE⟩) | (exact ⟨_, _, _, rfl, .no (fun h => tf hg20 h.2), hE⟩) | (exact ⟨_, _, _, rfl, .at ⟨hp16, hg20⟩ (k := i + 1) (i := j) (by omega) (by omega) hp49 hNR rfl, hE⟩) | (exact ⟨_, _, _, rfl, .none hNR (by omega), hE⟩)
    · have hg20 := not_false hg21
      refine W_skip ?_
      refine thenE_n ?_
      refine W_seq ?_
      refine W_region ?_
      refine WL_q rfl (ev_loads st36 sz36 rfl (cellsB hB3) rfl) ?_
      refine WL_q rfl (ev_loads st40 sz40 rfl (cellsB hB4) rfl) ?_
      have hin := inR_true.1 hg20
      have hnd := hp16.2.1.nodes
      refine WL_m rfl (ev_call rfl (maStart_spec _ m _ A _ hm (by omega) (by omega) hA (by omega) (by omega) (by assumption))) ?_
      rintro _ w25 ⟨a25, c25, rfl, hO25, hE25⟩
      have hz25 := hE25.size
      replace hE := hE.trans hE25
      replace hm := hm.ext hE25
      replace hA := hA.ext hE25
      replace hB3 := hB3.ext hE25
      replace hB4 := hB4.ext hE25
      have ht25 := hO25.otop
      refine WL_m rfl (ev_lit1 Try.underlying22 el24 (by decide) (by decide) rfl rfl) ?_
      rintro _ w26 ⟨rfl, hN26⟩
      have hz26 := hN26.size
      replace hE := hE.trans hN26.ext
      replace hm := hm.ext hN26.ext
      replace hA := hA.ext hN26.ext
      replace hB3 := hB3.ext hN26.ext
      replace hB4 := hB4.ext hN26.ext
      replace hO25 := hO25.ext hN26.ext
      have hB26 := hN26.blk
      refine WL_q rfl (ev_assign rfl) ?_
      refine WL_nil ?_
      refine thenE_n ?_
      refine W_seq ?_
      refine W_seq ?_
      refine W_region ?_
      refine WL_q rfl (ev_assign rfl) ?_
      refine WL_nil ?_
      refine thenE_n ?_
      refine W_block ?_
      have hR := RowsF.lit (l := w4.heap.size) (F := 24) hB26 (by omega) hO25 (by omega) (fun p hp => ht25 p hp) rfl
      rw [runL_zero] at hR
      refine W_loopC (G := Nat × Option Addr × Nat) [(2, _), (3, _), (4, _)] ((Subs.c rfl (Subs.c rfl (Subs.c rfl Subs.n)))) (fun ⟨i, a, c⟩ => [(9, .slice a (runL m A i).length c), (10, VI ((i : Int) + 1))]) (fun ⟨i, a, c⟩ w' => Lo (w4.heap.size) w26 w' ∧ (i : Int) ≤ k ∧ RowsF w4.heap.size w'.heap.size w' 3 24 a c (runL m A i) ∧ NoRep m A (i + 1)) (fun g => k.toNat - g.1) (0, _, _) ((Subs.c (lkS rfl (by rw [runL_len])) (Subs.c (lkI rfl (by omega)) Subs.n))) (⟨Lo.refl (by omega), ⟨by omega, hR.up (by omega), noRep_one m A⟩⟩) ?_
      rintro ⟨i, a, c⟩ wL0 ⟨hRL0, hi', hR, hNR⟩
      have hzL0 := hRL0.size
      replace hm := hm.lo hRL0 (by omega)
      replace hA := hA.lo hRL0 (by omega)
      replace hB3 := hB3.lo hRL0 (by omega)
      replace hB4 := hB4.lo hRL0 (by omega)
      replace hE := hE.lo hRL0 (by omega)
      have hrl := runL_len m A i
      have hso9 := stN_ok hp16 i
      have hsl := stN_len m A i
      have hsl2 := stN_len m A (i + 1)
      refine W_seq ?_
      refine W_seq ?_
      refine W_region ?_
      refine WL_q rfl (ev_move rfl) ?_
      refine WL_q rfl (ev_move rfl) ?_
      refine WL_q rfl (ev_leq rfl rfl) ?_
      refine WL_nil ?_
      refine thenE_n ?_
      refine W_cond rfl (fun hg29 => ?_) (fun hg29 => ?_)
      · have hp29 := of_decide_eq_true hg29
        refine W_skip ?_
        refine thenE_n ?_
        refine W_seq ?_
        refine W_block ?_
        refine W_seq ?_
        refine W_drawE [(0, true), (1, true), (2, true), (3, true), (4, true), (5, true), (6, true), (7, false), (8, true)] mixed (by kernel_rfl) rfl (by kernel_rfl) ?_
        intro wd7 hEd7 hzd7
        replace hE := hE.trans hEd7
        replace hRL0 := hRL0.trans hEd7
        replace hm := hm.ext hEd7
        replace hA := hA.ext hEd7
        replace hB3 := hB3.ext hEd7
        replace hB4 := hB4.ext hEd7
        replace hR := hR.ext hEd7
        have hDd7 := Ext.refl wd7
        refine PW_q rfl rfl (fun wq hq => ev_loads st36 sz36 rfl (cellsB (hq.blk hB3)) rfl) ?_
        refine PW_q rfl rfl (fun wq hq => ev_loads st40 sz40 rfl (cellsB (hq.blk hB4)) rfl) ?_
        refine PW_q rfl rfl (fun wq hq => ev_move rfl) ?_
        refine PW_q rfl rfl (fun wq hq => ev_move rfl) ?_
        refine PW_q rfl rfl (fun wq hq => ev_sub rfl rfl (by omega)) ?_
        have hl37 : (((i : Int) + 1) - 1).toNat < (runL m A i).length := by omega
        have ht37 := totL_le hl37
        obtain ⟨a37, c37, hc37, hr37⟩ := hR.is.row hl37
        refine PW_q rfl rfl (fun wq hq => ev_indexAddr Try.underlying22 sz24 rfl rfl ((hR.is).isSome (by omega)) (by omega) (by omega)) ?_
        have he37 : (runL m A i)[(((i : Int) + 1) - 1).toNat] = stN m A i := by rw [runL_at]; congr 1; omega
        rw [he37] at hc37 hr37
        refine PW_q rfl rfl (fun wq hq => ev_load one24 rfl (hq.cell (hc37))) ?_
        refine PW_m rfl rfl (ev_call rfl (maStep_spec _ m _ A _ _ (stN m A i) _ hm (by omega) (by omega) hA (by omega) (by omega) hr37 (by omega) (by omega) (by assumption) (by assumption))) ?_
        rintro _ w39 ⟨a39, c39, rfl, hO39, hE39⟩
        have hz39 := hE39.size
        replace hE := hE.trans hE39
        replace hRL0 := hRL0.trans hE39
        replace hDd7 := hDd7.trans hE39
        replace hr37 := hr37.ext hE39
        refine ⟨hDd7, ?_⟩
        refine PW_q rfl rfl (fun wq hq => ev_assign rfl) ?_
        replace hm := hm.ext hDd7
        replace hA := hA.ext hDd7
        replace hB3 := hB3.ext hDd7
        replace hB4 := hB4.ext hDd7
        replace hR := hR.ext hDd7
        refine PW_nil ?_
        refine thenE_n ?_
        refine W_seq ?_
        refine W_seq ?_
        refine W_region ?_
        refine WL_q rfl (ev_move rfl) ?_
        refine WL_q rfl (ev_len Try.underlying22 rfl) ?_
        refine WL_q rfl (ev_move rfl) ?_
        refine WL_nil ?_
        refine thenE_n ?_
        refine W_block ?_
        refine W_loopC (G := Nat) [(2, _), (3, _), (4, _), (9, _), (10, _), (11, _), (40, _), (41, _)] ((Subs.c rfl (Subs.c rfl (Subs.c rfl (Subs.c rfl (Subs.c rfl (Subs.c rfl (Subs.c rfl (Subs.c rfl Subs.n))))))))) (fun j => [(42, VI (j : Int))]) (fun j w' => Ext w39 w' ∧ j ≤ i + 1 ∧ ∀ s, s < j → stN m A s ≠ stN m A (i + 1)) (fun j => i + 1 - j) 0 ((Subs.c (lkI rfl (by omega)) Subs.n)) (⟨Ext.refl _, ⟨Nat.zero_le _, fun s h => by omega⟩⟩) ?_
        rintro j wL2 ⟨hRL2, hj', hJ2⟩
        have hzL2 := hRL2.size
        replace hE := hE.trans hRL2
        replace hRL0 := hRL0.trans hRL2
        replace hm := hm.ext hRL2
        replace hA := hA.ext hRL2
        replace hB3 := hB3.ext hRL2
        replace hB4 := hB4.ext hRL2
        replace hR := hR.ext hRL2
        replace hr37 := hr37.ext hRL2
        replace hO39 := hO39.ext hRL2
        refine W_seq ?_
        refine W_region ?_
        refine WL_q rfl (ev_lss rfl rfl) ?_
        refine WL_nil ?_
        refine thenE_n ?_
        refine W_seq ?_
        refine W_cond rfl (fun hg43 => ?_) (fun hg43 => ?_)
        · have hp43 := of_decide_eq_true hg43
          refine W_skip ?_
          refine thenE_n ?_
          refine W_seq ?_
          refine W_block ?_
          refine W_seq ?_
          refine W_region ?_
          refine WL_q rfl (ev_move rfl) ?_
          have hl45 : j < (runL m A i).length := by omega
          have ht45 := totL_le hl45
          obtain ⟨a45, c45, hc45, hr45⟩ := hR.is.row hl45
          refine WL_q rfl (ev_indexAddr Try.underlying22 sz24 rfl rfl ((hR.is).isSome (by omega)) (by omega) (by omega)) ?_
          have he45 : (runL m A i)[j] = stN m A j := runL_at hl45
          rw [he45] at hc45 hr45
          refine WL_q rfl (ev_load one24 rfl (hc45)) ?_
          refine WL_q rfl (ev_assign rfl) ?_
          refine WL_q rfl (ev_assign rfl) ?_
          refine WL_nil ?_
          refine thenE_n ?_
          refine W_seq ?_
          refine W_region ?_
          refine WL_q rfl (ev_move rfl) ?_
          refine WL_q rfl (ev_move rfl) ?_
          refine WL_m rfl (ev_call rfl (l1Same_spec _ _ _ _ (stN m A j) (stepS m A (stN m A i)) _ hr45 (own_i hO39) (by rw [stN_len]; omega))) ?_
          rintro _ w49 ⟨b49, rfl, hb49, hE49⟩
          have hz49 := hE49.size
          replace hE := hE.trans hE49
          replace hRL0 := hRL0.trans hE49
          replace hRL2 := hRL2.trans hE49
          replace hm := hm.ext hE49
          replace hA := hA.ext hE49
          replace hB3 := hB3.ext hE49
          replace hB4 := hB4.ext hE49
          replace hR := hR.ext hE49
          replace hr37 := hr37.ext hE49
          replace hO39 := hO39.ext hE49
          replace hr45 := hr45.ext hE49
          refine WL_nil ?_
          refine thenE_n ?_
          refine W_cond rfl (fun hg49 => ?_) (fun hg49 => ?_)
          · have hp49 := hb49.1 hg49
            refine W_seq ?_
            refine W_region ?_
            refine WL_q rfl (ev_move rfl) ?_
            refine WL_q rfl (ev_move rfl) ?_
            refine WL_q rfl (ev_move rfl) ?_
            refine WL_q rfl (ev_sub rfl rfl (by omega)) ?_
            refine WL_q rfl (ev_assign rfl) ?_
            refine WL_q rfl (ev_assign rfl) ?_
            refine WL_q rfl (ev_assign rfl) ?_
            refine WL_nil ?_
            refine thenE_n ?_
            refine W_ret ?_
            refine blockE_r ?_
            refine thenE_r ?_
            refine thenE_r ?_
            refine blockE_r ?_
            refine thenE_r ?_
            refine blockE_r ?_
            refine thenE_r ?_
            refine thenE_r ?_
            refine blockE_r ?_
            refine thenE_r ?_
            refine ret3 rfl rfl rfl rfl ?_
            first | (exact ⟨_, _, _, rfl, .no (fun h => hp16 h.1), hE⟩) | (exact ⟨_, _, _, rfl, .no (fun h => tf hg20 h.2), hE⟩) | (exact ⟨_, _, _, rfl, .at ⟨hp16, hg20⟩ (k := i + 1) (i := j) (by omega) (by omega) hp49 hNR rfl, hE⟩) | (exact ⟨_, _, _, rfl, .none hNR (by omega), hE⟩)
          · have hp49 := ttN hb49 hg49
            refine W_skip ?_
            refine blockE_n ?_
            refine thenE_n ?_
            refine W_region ?_
            refine WL_q rfl (ev_add rfl rfl (by omega)) ?_
            refine WL_q rfl (ev_move rfl) ?_
            refine WL_nil ?_
            refine thenE_n ?_
            exact ⟨j + 1, (Subs.c rfl (Subs.c rfl (Subs.c rfl (Subs.c rfl (Subs.c rfl (Subs.c rfl (Subs.c rfl (Subs.c rfl Subs.n)))))))), (Subs.c (lkI rfl (by omega)) Subs.n), ⟨hRL2, ⟨by omega, fun s hs => by
  by_cases e : s = j
  · subst e; exact hp49
  · exact hJ2 s (by omega)⟩⟩, by first | omega | (dsimp only; omega)⟩
        · have hp43 := of_decide_eq_false hg43
          refine W_exit ?_
          refine thenE_x ?_
          refine thenE_x ?_
          refine blockE_hit ?_
          refine thenE_n ?_
          refine W_region ?_
          refine WL_q rfl (ev_move rfl) ?_
          refine WL_q rfl (ev_move rfl) ?_
          refine WL_m rfl (ev_lit1 Try.underlying22 el24 (by decide) (by decide) rfl rfl) ?_
          rintro _ w57 ⟨rfl, hN57⟩
          have hz57 := hN57.size
          replace hE := hE.trans hN57.ext
          replace hRL0 := hRL0.trans hN57.ext
          replace hm := hm.ext hN57.ext
          replace hA := hA.ext hN57.ext
          replace hB3 := hB3.ext hN57.ext
          replace hB4 := hB4.ext hN57.ext
          replace hR := hR.ext hN57.ext
          replace hr37 := hr37.ext hN57.ext
          replace hO39 := hO39.ext hN57.ext
          have hB57 := hN57.blk
          obtain ⟨vs58, hA58⟩ := hR
          have hP58 := hA58.out
          refine WL_m rfl (ev_append Try.underlying22 el24 rfl (by decide) rfl rfl hP58 (SAt.of_blk (cs := [_]) (ds := []) hB57) rfl (by simp [Value.oneCell']) (by omega) (by unfold maxLen; omega) (by omega)) ?_
          rintro _ w58 ⟨a58, c58, rfl, hO58, hK58, hQ58⟩
          have hz58 := hK58.size
          replace hE := hE.app hK58 (fun q hq => by have h1 := (hP58.block q hq).1; have h2 := hA58.otop q hq; omega)
          replace hRL0 := hRL0.app hK58 (fun q hq => by have h1 := (hP58.block q hq).1; have h2 := hA58.otop q hq; omega)
          replace hm := hm.app hK58 (hP58) (by omega)
          replace hA := hA.app hK58 (hP58) (by omega)
          replace hB3 := hB3.app hK58 (hP58) (by omega)
          replace hB4 := hB4.app hK58 (hP58) (by omega)
          have hP58 := hO58
          have hR := rowsf_snoc hA58 hO39 (by omega) (by omega) hK58 hP58 rfl hQ58 (by omega)
          refine WL_q rfl (ev_assign rfl) ?_
          refine WL_nil ?_
          refine blockE_n ?_
          refine thenE_n ?_
          refine W_region ?_
          refine WL_q rfl (ev_move rfl) ?_
          refine WL_q rfl (ev_add rfl rfl (by omega)) ?_
          refine WL_q rfl (ev_assign rfl) ?_
          refine WL_nil ?_
          refine thenE_n ?_
          exact ⟨(i + 1, a58, c58), (Subs.c rfl (Subs.c rfl (Subs.c rfl Subs.n))), (Subs.c (lkS rfl (by rw [runL_len, runL_len])) (Subs.c (lkI rfl (by omega)) Subs.n)), ⟨hRL0, ⟨by omega, hR.to runL_snoc, noRep_row hNR (fun j hj => hJ2 j (by omega))⟩⟩, by first | omega | (dsimp only; omega)⟩
      · have hp29 := of_decide_eq_false hg29
        refine W_exit ?_
        refine thenE_x ?_
        refine thenE_x ?_
        refine blockE_hit ?_
        refine thenE_n ?_
        refine W_seq ?_
        refine W_region ?_
        refine WL_q rfl (ev_assign rfl) ?_
        refine WL_q rfl (ev_assign rfl) ?_
        refine WL_q rfl (ev_assign rfl) ?_
        refine WL_nil ?_
        refine thenE_n ?_
        refine W_ret ?_
        refine ret3 rfl rfl rfl rfl ?_
        first | (exact ⟨_, _, _, rfl, .no (fun h => hp16 h.1), hE⟩) | (exact ⟨_, _, _, rfl, .no (fun h => tf hg20 h.2), hE⟩) | (exact ⟨_, _, _, rfl, .at ⟨hp16, hg20⟩ (k := i + 1) (i := j) (by omega) (by omega) hp49 hNR rfl, hE⟩) | (exact ⟨_, _, _, rfl, .none hNR (by omega), hE⟩)

set_option maxRecDepth 100000 in
theorem law_PeriodOf (nm : MA) (m : Mach) (nA : NA) (A : Net) (k : Int) (w : World) (hm : IsMach 0 w.heap.size w nm m) (hsm : SmM m) (hA : IsNet 0 w.heap.size w nA A) (hsA : SmN A) (hik : I64 k) :
    Fn Try.prog 11 #[machV nm m, netV nA A, VI k] w (fun v w' => v = VB true ∧ Ext w w') := by
  have hE := Ext.refl w
  refine Fn_of Try.func11 rfl rfl (by kernel_rfl) rfl ?_
  refine W_seq ?_
  refine W_region ?_
  refine WL_m rfl (ev_box rfl) ?_
  rintro _ w3 ⟨rfl, hN3⟩
  have hz3 := hN3.size
  replace hE := hE.trans hN3.ext
  replace hm := hm.ext hN3.ext
  replace hA := hA.ext hN3.ext
  have hB3 : Blk w3 _ _ [_, _, _, _, _, _, _] := hN3.blk
  refine WL_m rfl (ev_box rfl) ?_
  rintro _ w4 ⟨rfl, hN4⟩
  have hz4 := hN4.size
  replace hE := hE.trans hN4.ext
  replace hm := hm.ext hN4.ext
  replace hA := hA.ext hN4.ext
  replace hB3 := hB3.ext hN4.ext
  have hB4 : Blk w4 _ _ [_, _, _] := hN4.blk
  refine WL_q rfl (ev_assign rfl) ?_
  refine WL_nil ?_
  refine thenE_n ?_
  refine W_seq ?_
  refine W_region ?_
  refine WL_q rfl (ev_assign rfl) ?_
  refine WL_nil ?_
  refine thenE_n ?_
  refine W_seq ?_
  refine W_region ?_
  refine WL_q rfl (ev_loads st26 sz26 rfl (cellsB hB3) rfl) ?_
  refine WL_q rfl (ev_move rfl) ?_
  refine WL_m rfl (ev_call rfl (szMachine_spec _ m _ _ hm (by omega) hsm)) ?_
  rintro _ w18 ⟨r18, rfl, hE18, hr18⟩
  have hz18 := hE18.size
  replace hE := hE.trans hE18
  replace hm := hm.ext hE18
  replace hA := hA.ext hE18
  replace hB3 := hB3.ext hE18
  replace hB4 := hB4.ext hE18
  refine WL_q rfl (ev_assign rfl) ?_
  refine WL_nil ?_
  refine thenE_n ?_
  refine W_seq ?_
  refine W_seq ?_
  refine W_region ?_
  refine WL_q rfl (ev_move rfl) ?_
  refine WL_q rfl (ev_lss rfl rfl) ?_
  refine WL_nil ?_
  refine thenE_n ?_
  refine W_cond rfl (fun hg20 => ?_) (fun hg20 => ?_)
  · have hp20 := of_decide_eq_true hg20
    refine W_seq ?_
    refine W_region ?_
    refine WL_q rfl (ev_assign rfl) ?_
    refine WL_nil ?_
    refine thenE_n ?_
    refine W_ret ?_
    refine thenE_r ?_
    refine ret1 rfl rfl ?_
    first | (exact ⟨rfl, hE⟩) | (exact (tfX hg20).elim) | (exact (decF hg20).elim) | (exfalso; omega)
  · have hp20 := of_decide_eq_false hg20
    refine W_skip ?_
    refine thenE_n ?_
    refine W_seq ?_
    refine W_region ?_
    refine WL_q rfl (ev_loads st29 sz29 rfl (cellsB hB4) rfl) ?_
    refine WL_q rfl (ev_move rfl) ?_
    refine WL_m rfl (ev_call rfl (szNetwork_spec _ A _ _ hA (by omega) hsA)) ?_
    rintro _ w23 ⟨r23, rfl, hE23, hr23⟩
    have hz23 := hE23.size
    replace hE := hE.trans hE23
    replace hm := hm.ext hE23
    replace hA := hA.ext hE23
    replace hB3 := hB3.ext hE23
    replace hB4 := hB4.ext hE23
    refine WL_q rfl (ev_assign rfl) ?_
    refine WL_nil ?_
    refine thenE_n ?_
    refine W_seq ?_
    refine W_seq ?_
    refine W_region ?_
    refine WL_q rfl (ev_move rfl) ?_
    refine WL_q rfl (ev_lss rfl rfl) ?_
    refine WL_nil ?_
    refine thenE_n ?_
    refine W_cond rfl (fun hg25 => ?_) (fun hg25 => ?_)
    · have hp25 := of_decide_eq_true hg25
      refine W_seq ?_
      refine W_region ?_
      refine WL_q rfl (ev_assign rfl) ?_
      refine WL_nil ?_
      refine thenE_n ?_
      refine W_ret ?_
      refine thenE_r ?_
      refine ret1 rfl rfl ?_
      first | (exact ⟨rfl, hE⟩) | (exact (tfX hg25).elim) | (exact (decF hg25).elim) | (exfalso; omega)
    · have hp25 := of_decide_eq_false hg25
      refine W_skip ?_
      refine thenE_n ?_
      refine W_seq ?_
      refine W_drawE [(0, true), (2, true), (4, true), (1, false), (3, false), (5, false), (6, true), (7, true), (8, true), (9, true), (10, true), (11, true), (12, true)] mixed (by kernel_rfl) rfl (by kernel_rfl) ?_
      intro wd8 hEd8 hzd8
      replace hE := hE.trans hEd8
      replace hm := hm.ext hEd8
      replace hA := hA.ext hEd8
      replace hB3 := hB3.ext hEd8
      replace hB4 := hB4.ext hEd8
      have hDd8 := Ext.refl wd8
      refine PW_q rfl rfl (fun wq hq => ev_loads st26 sz26 rfl (cellsB (hq.blk hB3)) rfl) ?_
      refine PW_q rfl rfl (fun wq hq => ev_loads st29 sz29 rfl (cellsB (hq.blk hB4)) rfl) ?_
      refine PW_q rfl rfl (fun wq hq => ev_move rfl) ?_
      refine PW_m rfl rfl (ev_call rfl (toMachine_spec _ m _ hm (by omega) (by omega))) ?_
      rintro _ w28 ⟨h28, rfl, hF28, hE28⟩
      have hz28 := hE28.size
      replace hE := hE.trans hE28
      replace hDd8 := hDd8.trans hE28
      have hM28 := hF28.is
      refine ⟨hDd8, ?_⟩
      have hm_3 := hm.ext hDd8
      have hA_3 := hA.ext hDd8
      have hB3_3 := hB3.ext hDd8
      have hB4_3 := hB4.ext hDd8
      refine PW_m rfl rfl (ev_call rfl (toNetwork_spec _ A _ hA_3 (by omega) (by omega))) ?_
      rintro _ w30 ⟨h30, rfl, hF30, hE30⟩
      have hz30 := hE30.size
      replace hE := hE.trans hE30
      replace hDd8 := hDd8.trans hE30
      replace hF28 := hF28.ext hE30
      replace hM28 := hM28.ext hE30
      have hN30 := hF30.is
      refine ⟨hDd8, ?_⟩
      have hm_5 := hm.ext hDd8
      have hA_5 := hA.ext hDd8
      have hB3_5 := hB3.ext hDd8
      have hB4_5 := hB4.ext hDd8
      refine PW_m rfl rfl (ev_call rfl (sPeriodOf_spec _ m _ A _ _ hM28 (by omega) (by omega) hN30 (by omega) (by omega))) ?_
      rintro _ w32 ⟨x32, y32, q32, rfl, hr32, hE32⟩
      have hz32 := hE32.size
      replace hE := hE.trans hE32
      replace hDd8 := hDd8.trans hE32
      replace hF28 := hF28.ext hE32
      replace hM28 := hM28.ext hE32
      replace hF30 := hF30.ext hE32
      replace hN30 := hN30.ext hE32
      refine ⟨hDd8, ?_⟩
      refine PW_q rfl rfl (fun wq hq => ev_move rfl) ?_
      refine PW_q rfl rfl (fun wq hq => ev_extract rfl rfl) ?_
      refine PW_q rfl rfl (fun wq hq => ev_extract rfl rfl) ?_
      refine PW_q rfl rfl (fun wq hq => ev_extract rfl rfl) ?_
      refine PW_q rfl rfl (fun wq hq => ev_assign rfl) ?_
      refine PW_q rfl rfl (fun wq hq => ev_assign rfl) ?_
      refine PW_q rfl rfl (fun wq hq => ev_assign rfl) ?_
      replace hm := hm.ext hDd8
      replace hA := hA.ext hDd8
      replace hB3 := hB3.ext hDd8
      replace hB4 := hB4.ext hDd8
      refine PW_nil ?_
      refine thenE_n ?_
      refine W_seq ?_
      refine W_region ?_
      refine WL_q rfl (ev_loads st26 sz26 rfl (cellsB hB3) rfl) ?_
      refine WL_m rfl (ev_call rfl (toMachine_spec _ m _ hm (by omega) (by omega))) ?_
      rintro _ w37 ⟨h37, rfl, hF37, hE37⟩
      have hz37 := hE37.size
      replace hE := hE.trans hE37
      replace hm := hm.ext hE37
      replace hA := hA.ext hE37
      replace hB3 := hB3.ext hE37
      replace hB4 := hB4.ext hE37
      replace hF28 := hF28.ext hE37
      replace hM28 := hM28.ext hE37
      replace hF30 := hF30.ext hE37
      replace hN30 := hN30.ext hE37
      have hM37 := hF37.is
      refine WL_m rfl (ev_alloc zr36) ?_
      rintro _ w11 ⟨rfl, hN11⟩
      have hz11 := hN11.size
      replace hE := hE.trans hN11.ext
      replace hm := hm.ext hN11.ext
      replace hA := hA.ext hN11.ext
      replace hB3 := hB3.ext hN11.ext
      replace hB4 := hB4.ext hN11.ext
      replace hF28 := hF28.ext hN11.ext
      replace hM28 := hM28.ext hN11.ext
      replace hF30 := hF30.ext hN11.ext
      replace hN30 := hN30.ext hN11.ext
      replace hF37 := hF37.ext hN11.ext
      replace hM37 := hM37.ext hN11.ext
      have hB11 : Blk w11 _ _ [_, _, _, _, _, _, _] := hN11.blk
      refine WL_s (ev_stores sz36 rfl rfl rfl (by simp [Value.oneCell']) hB11 (by simp)) ?_
      rintro _ w9_3 hS9_3
      have hz9_3 := hS9_3.size
      replace hE := hE.sto hS9_3 (by omega)
      replace hm := hm.sto hS9_3 (by omega)
      replace hA := hA.sto hS9_3 (by omega)
      replace hB3 := hB3.sto hS9_3 (by omega)
      replace hB4 := hB4.sto hS9_3 (by omega)
      replace hF28 := hF28.sto hS9_3 (by omega)
      replace hM28 := hM28.sto hS9_3 (by omega)
      replace hF30 := hF30.sto hS9_3 (by omega)
      replace hN30 := hN30.sto hS9_3 (by omega)
      replace hF37 := hF37.sto hS9_3 (by omega)
      replace hM37 := hM37.sto hS9_3 (by omega)
      replace hB11 : Blk w9_3 _ _ [_, _, _, _, _, _, _] := hS9_3.blk
      refine WL_nil ?_
      refine thenE_n ?_
      refine W_seq ?_
      refine W_region ?_
      refine WL_q rfl (ev_loads st29 sz29 rfl (cellsB hB4) rfl) ?_
      refine WL_m rfl (ev_call rfl (toNetwork_spec _ A _ hA (by omega) (by omega))) ?_
      rintro _ w39 ⟨h39, rfl, hF39, hE39⟩
      have hz39 := hE39.size
      replace hE := hE.trans hE39
      replace hm := hm.ext hE39
      replace hA := hA.ext hE39
      replace hB3 := hB3.ext hE39
      replace hB4 := hB4.ext hE39
      replace hF28 := hF28.ext hE39
      replace hM28 := hM28.ext hE39
      replace hF30 := hF30.ext hE39
      replace hN30 := hN30.ext hE39
      replace hF37 := hF37.ext hE39
      replace hM37 := hM37.ext hE39
      replace hB11 := hB11.ext hE39
      have hN39 := hF39.is
      refine WL_m rfl (ev_alloc zr40) ?_
      rintro _ w12 ⟨rfl, hN12⟩
      have hz12 := hN12.size
      replace hE := hE.trans hN12.ext
      replace hm := hm.ext hN12.ext
      replace hA := hA.ext hN12.ext
      replace hB3 := hB3.ext hN12.ext
      replace hB4 := hB4.ext hN12.ext
      replace hF28 := hF28.ext hN12.ext
      replace hM28 := hM28.ext hN12.ext
      replace hF30 := hF30.ext hN12.ext
      replace hN30 := hN30.ext hN12.ext
      replace hF37 := hF37.ext hN12.ext
      replace hM37 := hM37.ext hN12.ext
      replace hB11 := hB11.ext hN12.ext
      replace hF39 := hF39.ext hN12.ext
      replace hN39 := hN39.ext hN12.ext
      have hB12 : Blk w12 _ _ [_, _, _] := hN12.blk
      refine WL_s (ev_stores sz40 rfl rfl rfl (by simp [Value.oneCell']) hB12 (by simp)) ?_
      rintro _ w10_3 hS10_3
      have hz10_3 := hS10_3.size
      replace hE := hE.sto hS10_3 (by omega)
      replace hm := hm.sto hS10_3 (by omega)
      replace hA := hA.sto hS10_3 (by omega)
      replace hB3 := hB3.sto hS10_3 (by omega)
      replace hB4 := hB4.sto hS10_3 (by omega)
      replace hF28 := hF28.sto hS10_3 (by omega)
      replace hM28 := hM28.sto hS10_3 (by omega)
      replace hF30 := hF30.sto hS10_3 (by omega)
      replace hN30 := hN30.sto hS10_3 (by omega)
      replace hF37 := hF37.sto hS10_3 (by omega)
      replace hM37 := hM37.sto hS10_3 (by omega)
      replace hB11 := hB11.sto hS10_3 (by omega)
      replace hF39 := hF39.sto hS10_3 (by omega)
      replace hN39 := hN39.sto hS10_3 (by omega)
      replace hB12 : Blk w10_3 _ _ [_, _, _] := hS10_3.blk
      refine WL_nil ?_
      refine thenE_n ?_
      refine W_seq ?_
      refine W_region ?_
      refine WL_q rfl (ev_loads st36 sz36 rfl (cellsB hB11) rfl) ?_
      refine WL_q rfl (ev_loads st40 sz40 rfl (cellsB hB12) rfl) ?_
      refine WL_q rfl (ev_move rfl) ?_
      refine WL_m rfl (ev_call rfl (PeriodOf_spec _ m _ A _ _ hM37 (by omega) (by omega) hN39 (by omega) (by omega))) ?_
      rintro _ w44 ⟨x44, y44, q44, rfl, hr44, hE44⟩
      have hz44 := hE44.size
      replace hE := hE.trans hE44
      replace hm := hm.ext hE44
      replace hA := hA.ext hE44
      replace hB3 := hB3.ext hE44
      replace hB4 := hB4.ext hE44
      replace hF28 := hF28.ext hE44
      replace hM28 := hM28.ext hE44
      replace hF30 := hF30.ext hE44
      replace hN30 := hN30.ext hE44
      replace hF37 := hF37.ext hE44
      replace hM37 := hM37.ext hE44
      replace hB11 := hB11.ext hE44
      replace hF39 := hF39.ext hE44
      replace hN39 := hN39.ext hE44
      replace hB12 := hB12.ext hE44
      refine WL_q rfl (ev_move rfl) ?_
      refine WL_q rfl (ev_extract rfl rfl) ?_
      refine WL_q rfl (ev_extract rfl rfl) ?_
      refine WL_q rfl (ev_extract rfl rfl) ?_
      refine WL_q rfl (ev_assign rfl) ?_
      refine WL_q rfl (ev_assign rfl) ?_
      refine WL_q rfl (ev_assign rfl) ?_
      refine WL_nil ?_
      refine thenE_n ?_
      refine W_seq ?_
      refine W_seq ?_
      refine W_region ?_
      refine WL_q rfl (ev_move rfl) ?_
      refine WL_q rfl (ev_move rfl) ?_
      refine WL_q rfl (ev_neq rfl rfl) ?_
      refine WL_q rfl (ev_move rfl) ?_
      refine WL_splitv (t := 51) rfl (fun hg50 => ?_) (fun hg50 => ?_)
      · have hp50 := of_decide_eq_true hg50
        refine WL_no rfl rfl hg50 rfl ?_
        refine WL_no rfl rfl hg50 rfl ?_
        refine WL_no rfl rfl hg50 rfl ?_
        refine WL_q rfl (ev_pick_t rfl hg50 rfl) ?_
        refine WL_q rfl (ev_move rfl) ?_
        refine WL_no rfl rfl rfl rfl ?_
        refine WL_no rfl rfl rfl rfl ?_
        refine WL_no rfl rfl rfl rfl ?_
        refine WL_q rfl (ev_pick_t rfl rfl rfl) ?_
        refine WL_nil ?_
        refine thenE_n ?_
        refine W_cond_t rfl ?_
        refine W_seq ?_
        refine W_region ?_
        refine WL_q rfl (ev_assign rfl) ?_
        refine WL_nil ?_
        refine thenE_n ?_
        refine W_ret ?_
        refine thenE_r ?_
        refine ret1 rfl rfl ?_
        first | (exact ⟨rfl, hE⟩) | (exact (bneE hg50 (hr44.det1 hr32)).elim) | (exact absurd (hr44.det1 hr32) hp50) | (exact absurd (hr44.det1 hr32) (of_decide_eq_false hg50)) | (exact (bneE hg50 (hr44.det2 hr32)).elim) | (exact absurd (hr44.det2 hr32) hp50) | (exact absurd (hr44.det2 hr32) (of_decide_eq_false hg50)) | (exact (bneE hg50 (hr44.det3 hr32)).elim) | (exact absurd (hr44.det3 hr32) hp50) | (exact absurd (hr44.det3 hr32) (of_decide_eq_false hg50)) | (exact (tfX hg50).elim) | (exact (decF hg50).elim) | (exfalso; omega)
      · have hp50 := of_decide_eq_false hg50
        refine WL_qg rfl rfl hg50 rfl (ev_move rfl) ?_
        refine WL_qg rfl rfl hg50 rfl (ev_move rfl) ?_
        refine WL_qg rfl rfl hg50 rfl (ev_neq rfl rfl) ?_
        refine WL_q rfl (ev_pick_f rfl hg50 rfl) ?_
        refine WL_q rfl (ev_move rfl) ?_
        refine WL_splitv (t := 56) rfl (fun hg54 => ?_) (fun hg54 => ?_)
        · have hp54 := of_decide_eq_true hg54
          refine WL_no rfl rfl hg54 rfl ?_
          refine WL_no rfl rfl hg54 rfl ?_
          refine WL_no rfl rfl hg54 rfl ?_
          refine WL_q rfl (ev_pick_t rfl hg54 rfl) ?_
          refine WL_nil ?_
          refine thenE_n ?_
          refine W_cond_t rfl ?_
          refine W_seq ?_
          refine W_region ?_
          refine WL_q rfl (ev_assign rfl) ?_
          refine WL_nil ?_
          refine thenE_n ?_
          refine W_ret ?_
          refine thenE_r ?_
          refine ret1 rfl rfl ?_
          first | (exact ⟨rfl, hE⟩) | (exact (bneE hg54 (hr44.det1 hr32)).elim) | (exact absurd (hr44.det1 hr32) hp54) | (exact absurd (hr44.det1 hr32) (of_decide_eq_false hg54)) | (exact (bneE hg54 (hr44.det2 hr32)).elim) | (exact absurd (hr44.det2 hr32) hp54) | (exact absurd (hr44.det2 hr32) (of_decide_eq_false hg54)) | (exact (bneE hg54 (hr44.det3 hr32)).elim) | (exact absurd (hr44.det3 hr32) hp54) | (exact absurd (hr44.det3 hr32) (of_decide_eq_false hg54)) | (exact (tfX hg54).elim) | (exact (decF hg54).elim) | (exfalso; omega)
        · have hp54 := of_decide_eq_false hg54
          refine WL_qg rfl rfl hg54 rfl (ev_move rfl) ?_
          refine WL_qg rfl rfl hg54 rfl (ev_move rfl) ?_
          refine WL_qg rfl rfl hg54 rfl (ev_neq_b Try.underlying4 rfl rfl) ?_
          refine WL_q rfl (ev_pick_f rfl hg54 rfl) ?_
          refine WL_nil ?_
          refine thenE_n ?_
          refine W_cond rfl (fun hg59 => ?_) (fun hg59 => ?_)
          · refine W_seq ?_
            refine W_region ?_
            refine WL_q rfl (ev_assign rfl) ?_
            refine WL_nil ?_
            refine thenE_n ?_
            refine W_ret ?_
            refine thenE_r ?_
            refine ret1 rfl rfl ?_
            first | (exact ⟨rfl, hE⟩) | (exact (bneE hg59 (hr44.det1 hr32)).elim) | (exact absurd (hr44.det1 hr32) hp59) | (exact absurd (hr44.det1 hr32) (of_decide_eq_false hg59)) | (exact (bneE hg59 (hr44.det2 hr32)).elim) | (exact absurd (hr44.det2 hr32) hp59) | (exact absurd (hr44.det2 hr32) (of_decide_eq_false hg59)) | (exact (bneE hg59 (hr44.det3 hr32)).elim) | (exact absurd (hr44.det3 hr32) hp59) | (exact absurd (hr44.det3 hr32) (of_decide_eq_false hg59)) | (exact (tfX hg59).elim) | (exact (decF hg59).elim) | (exfalso; omega)
          · refine W_skip ?_
            refine thenE_n ?_
            refine W_seq ?_
            refine W_seq ?_
            refine W_drawE [(0, true), (1, true), (2, false), (3, false), (4, true)] mixed (by kernel_rfl) rfl (by kernel_rfl) ?_
            intro wd14 hEd14 hzd14
            replace hE := hE.trans hEd14
            replace hm := hm.ext hEd14
            replace hA := hA.ext hEd14
            replace hB3 := hB3.ext hEd14
            replace hB4 := hB4.ext hEd14
            replace hF28 := hF28.ext hEd14
            replace hM28 := hM28.ext hEd14
            replace hF30 := hF30.ext hEd14
            replace hN30 := hN30.ext hEd14
            replace hF37 := hF37.ext hEd14
            replace hM37 := hM37.ext hEd14
            replace hB11 := hB11.ext hEd14
            replace hF39 := hF39.ext hEd14
            replace hN39 := hN39.ext hEd14
            replace hB12 := hB12.ext hEd14
            have hDd14 := Ext.refl wd14
            refine PW_q rfl rfl (fun wq hq => ev_loads st36 sz36 rfl (cellsB (hq.blk hB11)) rfl) ?_
            refine PW_q rfl rfl (fun wq hq => ev_loads st26 sz26 rfl (cellsB (hq.blk hB3)) rfl) ?_
            refine PW_m rfl rfl (ev_call rfl (toMachine_spec _ m _ hm (by omega) (by omega))) ?_
            rintro _ w63 ⟨h63, rfl, hF63, hE63⟩
            have hz63 := hE63.size
            replace hE := hE.trans hE63
            replace hDd14 := hDd14.trans hE63
            have hM63 := hF63.is
            refine ⟨hDd14, ?_⟩
            have hm_3 := hm.ext hDd14
            have hA_3 := hA.ext hDd14
            have hB3_3 := hB3.ext hDd14
            have hB4_3 := hB4.ext hDd14
            have hF28_3 := hF28.ext hDd14
            have hM28_3 := hM28.ext hDd14
            have hF30_3 := hF30.ext hDd14
            have hN30_3 := hN30.ext hDd14
            have hF37_3 := hF37.ext hDd14
            have hM37_3 := hM37.ext hDd14
            have hB11_3 := hB11.ext hDd14
            have hF39_3 := hF39.ext hDd14
            have hN39_3 := hN39.ext hDd14
            have hB12_3 := hB12.ext hDd14
            refine PW_m rfl rfl (ev_call rfl (eqMachine_spec _ _ m _ hM37_3 hM63 (by omega))) ?_
            rintro _ w64 ⟨rfl, hE64⟩
            have hz64 := hE64.size
            replace hE := hE.trans hE64
            replace hDd14 := hDd14.trans hE64
            replace hF63 := hF63.ext hE64
            replace hM63 := hM63.ext hE64
            refine ⟨hDd14, ?_⟩
            refine PW_q rfl rfl (fun wq hq => ev_not rfl) ?_
            replace hm := hm.ext hDd14
            replace hA := hA.ext hDd14
            replace hB3 := hB3.ext hDd14
            replace hB4 := hB4.ext hDd14
            replace hF28 := hF28.ext hDd14
            replace hM28 := hM28.ext hDd14
            replace hF30 := hF30.ext hDd14
            replace hN30 := hN30.ext hDd14
            replace hF37 := hF37.ext hDd14
            replace hM37 := hM37.ext hDd14
            replace hB11 := hB11.ext hDd14
            replace hF39 := hF39.ext hDd14
            replace hN39 := hN39.ext hDd14
            replace hB12 := hB12.ext hDd14
            refine PW_nil ?_
            refine thenE_n ?_
            refine W_cond rfl (fun hg65 => ?_) (fun hg65 => ?_)
            · have hg64 := not_true hg65
              refine W_seq ?_
              refine W_region ?_
              refine WL_q rfl (ev_assign rfl) ?_
              refine WL_nil ?_
              refine thenE_n ?_
              refine W_ret ?_
              refine thenE_r ?_
              refine ret1 rfl rfl ?_
              first | (exact ⟨rfl, hE⟩) | (exact (bneE hg64 (hr44.det1 hr32)).elim) | (exact absurd (hr44.det1 hr32) hp64) | (exact absurd (hr44.det1 hr32) (of_decide_eq_false hg64)) | (exact (bneE hg64 (hr44.det2 hr32)).elim) | (exact absurd (hr44.det2 hr32) hp64) | (exact absurd (hr44.det2 hr32) (of_decide_eq_false hg64)) | (exact (bneE hg64 (hr44.det3 hr32)).elim) | (exact absurd (hr44.det3 hr32) hp64) | (exact absurd (hr44.det3 hr32) (of_decide_eq_false hg64)) | (exact (tfX hg64).elim) | (exact (decF hg64).elim) | (exfalso; omega)
            · have hg64 := not_false hg65
              refine W_skip ?_
              refine thenE_n ?_
              refine W_seq ?_
              refine W_seq ?_
              refine W_drawE [(0, true), (1, true), (2, false), (3, false), (4, true)] mixed (by kernel_rfl) rfl (by kernel_rfl) ?_
              intro wd16 hEd16 hzd16
              replace hE := hE.trans hEd16
              replace hm := hm.ext hEd16
              replace hA := hA.ext hEd16
              replace hB3 := hB3.ext hEd16
              replace hB4 := hB4.ext hEd16
              replace hF28 := hF28.ext hEd16
              replace hM28 := hM28.ext hEd16
              replace hF30 := hF30.ext hEd16
              replace hN30 := hN30.ext hEd16
              replace hF37 := hF37.ext hEd16
              replace hM37 := hM37.ext hEd16
              replace hB11 := hB11.ext hEd16
              replace hF39 := hF39.ext hEd16
              replace hN39 := hN39.ext hEd16
              replace hB12 := hB12.ext hEd16
              replace hF63 := hF63.ext hEd16
              replace hM63 := hM63.ext hEd16
              have hDd16 := Ext.refl wd16
              refine PW_q rfl rfl (fun wq hq => ev_loads st40 sz40 rfl (cellsB (hq.blk hB12)) rfl) ?_
              refine PW_q rfl rfl (fun wq hq => ev_loads st29 sz29 rfl (cellsB (hq.blk hB4)) rfl) ?_
              refine PW_m rfl rfl (ev_call rfl (toNetwork_spec _ A _ hA (by omega) (by omega))) ?_
              rintro _ w68 ⟨h68, rfl, hF68, hE68⟩
              have hz68 := hE68.size
              replace hE := hE.trans hE68
              replace hDd16 := hDd16.trans hE68
              have hN68 := hF68.is
              refine ⟨hDd16, ?_⟩
              have hm_3 := hm.ext hDd16
              have hA_3 := hA.ext hDd16
              have hB3_3 := hB3.ext hDd16
              have hB4_3 := hB4.ext hDd16
              have hF28_3 := hF28.ext hDd16
              have hM28_3 := hM28.ext hDd16
              have hF30_3 := hF30.ext hDd16
              have hN30_3 := hN30.ext hDd16
              have hF37_3 := hF37.ext hDd16
              have hM37_3 := hM37.ext hDd16
              have hB11_3 := hB11.ext hDd16
              have hF39_3 := hF39.ext hDd16
              have hN39_3 := hN39.ext hDd16
              have hB12_3 := hB12.ext hDd16
              have hF63_3 := hF63.ext hDd16
              have hM63_3 := hM63.ext hDd16
              refine PW_m rfl rfl (ev_call rfl (eqNetwork_spec _ _ A _ hN39_3 hN68 (by omega))) ?_
              rintro _ w69 ⟨rfl, hE69⟩
              have hz69 := hE69.size
              replace hE := hE.trans hE69
              replace hDd16 := hDd16.trans hE69
              replace hF68 := hF68.ext hE69
              replace hN68 := hN68.ext hE69
              refine ⟨hDd16, ?_⟩
              refine PW_q rfl rfl (fun wq hq => ev_not rfl) ?_
              replace hm := hm.ext hDd16
              replace hA := hA.ext hDd16
              replace hB3 := hB3.ext hDd16
              replace hB4 := hB4.ext hDd16
              replace hF28 := hF28.ext hDd16
              replace hM28 := hM28.ext hDd16
              replace hF30 := hF30.ext hDd16
              replace hN30 := hN30.ext hDd16
              replace hF37 := hF37.ext hDd16
              replace hM37 := hM37.ext hDd16
              replace hB11 := hB11.ext hDd16
              replace hF39 := hF39.ext hDd16
              replace hN39 := hN39.ext hDd16
              replace hB12 := hB12.ext hDd16
              replace hF63 := hF63.ext hDd16
              replace hM63 := hM63.ext hDd16
              refine PW_nil ?_
              refine thenE_n ?_
              refine W_cond rfl (fun hg70 => ?_) (fun hg70 => ?_)
              · have hg69 := not_true hg70
                refine W_seq ?_
                refine W_region ?_
                refine WL_q rfl (ev_assign rfl) ?_
                refine WL_nil ?_
                refine thenE_n ?_
                refine W_ret ?_
                refine thenE_r ?_
                refine ret1 rfl rfl ?_
                first | (exact ⟨rfl, hE⟩) | (exact (bneE hg69 (hr44.det1 hr32)).elim) | (exact absurd (hr44.det1 hr32) hp69) | (exact absurd (hr44.det1 hr32) (of_decide_eq_false hg69)) | (exact (bneE hg69 (hr44.det2 hr32)).elim) | (exact absurd (hr44.det2 hr32) hp69) | (exact absurd (hr44.det2 hr32) (of_decide_eq_false hg69)) | (exact (bneE hg69 (hr44.det3 hr32)).elim) | (exact absurd (hr44.det3 hr32) hp69) | (exact absurd (hr44.det3 hr32) (of_decide_eq_false hg69)) | (exact (tfX hg69).elim) | (exact (decF hg69).elim) | (exfalso; omega)
              · have hg69 := not_false hg70
                refine W_skip ?_
                refine thenE_n ?_
                refine W_seq ?_
                refine W_region ?_
                refine WL_q rfl (ev_assign rfl) ?_
                refine WL_nil ?_
                refine thenE_n ?_
                refine W_ret ?_
                refine ret1 rfl rfl ?_
                first | (exact ⟨rfl, hE⟩) | (exact (bneE hg69 (hr44.det1 hr32)).elim) | (exact absurd (hr44.det1 hr32) hp69) | (exact absurd (hr44.det1 hr32) (of_decide_eq_false hg69)) | (exact (bneE hg69 (hr44.det2 hr32)).elim) | (exact absurd (hr44.det2 hr32) hp69) | (exact absurd (hr44.det2 hr32) (of_decide_eq_false hg69)) | (exact (bneE hg69 (hr44.det3 hr32)).elim) | (exact absurd (hr44.det3 hr32) hp69) | (exact absurd (hr44.det3 hr32) (of_decide_eq_false hg69)) | (exact (tfX hg69).elim) | (exact (decF hg69).elim) | (exfalso; omega)

end Go.Proofs.Ytebjcbgencenbaa
