/- Contracts of the reach of a node and of ExtendMap, of the program and of the reference; the walk of its law. -/
import Derived.Test.YtjnkkadbfigmpaaDist
import Derived.Test.YtjnkkadbfigmpaaExts
import Derived.Test.YtjnkkadbfigmpaaDraw
namespace Go.Proofs.Ytjnkkadbfigmpaa
open Go Go.RowKit

theorem reach_mem {A : Ends} (hk : EndsOk A) (h0 : 0 < A.length) {j : Nat} (hj : j < (reachL A).length) : 0 ≤ (reachL A)[j] ∧ (reachL A)[j].toNat < A.length ∧ ∃ h : j < (bfsN A 0 j).2.length, (bfsN A 0 j).2[j] = (reachL A)[j] ∧ 0 ≤ (bfsN A 0 j).1.getD ((reachL A)[j]).toNat 0 := by
  have hle := reachL_le hk h0
  have hin := reachL_now hj (by omega)
  have hx : (bfsN A 0 j).2[j] = (reachL A)[j] := reachL_at (by omega) hin hj
  have hm := (bfsN_inv hk (v := 0) (by omega) (by omega) j).mem _ (List.getElem_mem hin)
  rw [hx] at hm
  exact ⟨hm.1, hm.2.1, hin, hx, hm.2.2⟩
theorem XInv.img {N M : Nat} {s : List Int × List Int} {m : List Int} (h : XInv N M s m) {y : Nat} (hy : y < N) (hd : 0 ≤ s.1.getD y 0) : ∃ h2 : y < m.length, 0 ≤ m[y] ∧ m[y].toNat < M := by
  have h2 : y < m.length := by rw [h.len]; exact hy
  have h3 := (h.coh y hy).2 hd
  rw [getD_eq h2] at h3
  have := h.at h2
  exact ⟨h2, h3, by omega⟩
theorem extAt_iff {A B : Ends} {w y : Int} {j : Nat} (hj : j < (reachL A).length) (hy : (reachL A)[j] = y) (h1 : y.toNat < A.length) (h2 : y.toNat < (extN A B w j).length) (h3 : ((extN A B w j)[y.toNat]).toNat < B.length) : ExtAt A B w j ↔ A[y.toNat].length = B[((extN A B w j)[y.toNat]).toNat].length := by
  unfold ExtAt
  constructor
  · intro h
    have := h hj
    rw [hy, getD_eq h1, getD_eq h2, getD_eq h3] at this
    exact this
  · intro h _
    rw [hy, getD_eq h1, getD_eq h2, getD_eq h3]
    exact h
/-- The map that takes node 0 to x can be extended. -/
def EV (A B : Net) (x : Int) : Prop := ExtAll A.ends B.ends x ∧ IsPM A B (extM A.ends B.ends x)
theorem ext0 {A B : Ends} {x : Int} : (List.replicate A.length (-1)).set 0 x = extN A B x 0 := rfl
theorem extR_zero {row brow : List (Int × Int)} {m : List Int} : extR row brow m 0 = m := rfl
theorem extR_len {row brow : List (Int × Int)} {m : List Int} : ∀ k, (extR row brow m k).length = m.length := by
  intro k
  induction k with
  | zero => rfl
  | succ k ih =>
    unfold extR
    split
    · unfold extX; split
      · rw [List.length_set]; exact ih
      · exact ih
    · exact ih
theorem extR_at {row brow : List (Int × Int)} {m : List Int} {y k : Nat} (h : y < m.length) (h0 : 0 ≤ m[y]) (h2 : y < (extR row brow m k).length) : (extR row brow m k)[y] = m[y] := by
  have := extR_keep (row := row) (brow := brow) (m := m) (x := y) (by rw [getD_eq h]; exact h0) k
  rw [getD_eq h, getD_eq h2] at this
  exact this
/-- If it went well, the slice is owned. -/
def OkOwn (q : Bool) (lo : Nat) (w : World) (E : TypeId) (a : Option Addr) (n c : Nat) (ys : List Int) : Prop := q = true → n = ys.length ∧ Own lo w E 1 a n c (ys.map VI)
theorem OkOwn.ext {q : Bool} {lo : Nat} {w w' : World} {E : TypeId} {a : Option Addr} {n c : Nat} {ys : List Int} (h : OkOwn q lo w E a n c ys) (k : Ext w w') : OkOwn q lo w' E a n c ys := fun hq => ⟨(h hq).1, (h hq).2.ext k⟩
theorem OkOwn.sto {q : Bool} {lo b : Nat} {w w' : World} {E T : TypeId} {a : Option Addr} {n c : Nat} {ys : List Int} {ds : List Value} (h : OkOwn q lo w E a n c ys) (k : Sto w w' b T ds) (hb : b < lo) : OkOwn q lo w' E a n c ys := fun hq => ⟨(h hq).1, (h hq).2.sto' k fun p hp => by have := ((h hq).2.block p hp).1; omega⟩
theorem OkOwn.no {lo : Nat} {w : World} {E : TypeId} {a : Option Addr} {n c : Nat} {ys : List Int} : OkOwn false lo w E a n c ys := fun h => (by cases h)
theorem coMap_len {lo hi lo2 hi2 lo3 hi3 n : Nat} (ha hb : NA) (A B : Net) (a : Option Addr) (c : Nat) (m : List Int) (w : World) (hl : m.length = n) (hA : IsNet lo hi w ha A) (hB : IsNet lo2 hi2 w hb B) (hx : Ints lo3 hi3 w a c m) (h1 : hi ≤ w.heap.size) (h2 : hi2 ≤ w.heap.size) (h3 : hi3 ≤ w.heap.size) (h4 : totN A ≤ 1048576) (h5 : totN B ≤ 1048576) (h6 : m.length ≤ 1048576) (hkA : NOk A) (hkB : NOk B) :
    Fn Try.prog 93 #[netV ha A, netV hb B, .slice a n c] w (fun v w' => ∃ b, v = VB b ∧ (b = true ↔ IsPM A B m) ∧ Ext w w') := by subst hl; exact coMap_spec _ _ _ _ _ _ _ _ hA hB hx h1 h2 h3 h4 h5 h6 hkA hkB
theorem isPortMap_len {lo hi lo2 hi2 lo3 hi3 n : Nat} (ha hb : NA) (A B : Net) (a : Option Addr) (c : Nat) (m : List Int) (w : World) (hl : m.length = n) (hA : IsNet lo hi w ha A) (hB : IsNet lo2 hi2 w hb B) (hx : Ints lo3 hi3 w a c m) (h1 : hi ≤ w.heap.size) (h2 : hi2 ≤ w.heap.size) (h3 : hi3 ≤ w.heap.size) (h4 : totN A ≤ 1048576) (h5 : totN B ≤ 1048576) (h6 : m.length ≤ 1048576) (hkA : NOk A) (hkB : NOk B) :
    Fn Try.prog 98 #[netV ha A, netV hb B, .slice a n c] w (fun v w' => ∃ b, v = VB b ∧ (b = true ↔ IsPM A B m) ∧ Ext w w') := by subst hl; exact isPortMap_spec _ _ _ _ _ _ _ _ hA hB hx h1 h2 h3 h4 h5 h6 hkA hkB

set_option maxHeartbeats 2000000 in
set_option maxRecDepth 100000 in
theorem coReach_spec {loA hiA : Nat} (nA : NA) (A : Net) (z : Int) (w : World) (hA : IsNet loA hiA w nA A) (hhiA : hiA ≤ w.heap.size) (hnA : totN A ≤ 1048576) (hz : z = 0) (hk : EndsOk A.ends) (h0 : 0 < A.ends.length) :
    Fn Try.prog 92 #[netV nA A, VI z] w (fun o9 w' => ∃ a' c', o9 = .slice a' (reachL A.ends).length c' ∧ Own w.heap.size w' 3 1 a' (reachL A.ends).length c' ((reachL A.ends).map VI) ∧ Ext w w') := by
  have hqA := totL_len A.ends
  have hmA : totL A.ends + A.ids.length + A.inputs.length ≤ 1048576 := hnA
  subst hz
  have h00 : (0 : Int) ≤ 0 := by omega
  have h01 : (0 : Int).toNat < A.ends.length := by omega
  have hE := Ext.refl w
  refine Fn_of Try.func92 rfl rfl (by kernel_rfl) rfl ?_
  refine W_seq ?_
  refine W_region ?_
  refine WL_m rfl (ev_box rfl) ?_
  rintro _ w2 ⟨rfl, hN2⟩
  have hz2 := hN2.size
  replace hE := hE.trans hN2.ext
  replace hA := hA.ext hN2.ext
  have hB2 : Blk w2 _ _ [_, _, _] := hN2.blk
  refine WL_q rfl (ev_assign rfl) ?_
  refine WL_nil ?_
  refine thenE_n ?_
  refine W_seq ?_
  refine W_region ?_
  refine WL_q rfl (ev_move rfl) ?_
  refine WL_m rfl (ev_lit1 Try.underlying23 el3 (by decide) (by decide) rfl rfl) ?_
  rintro _ w10 ⟨rfl, hN10⟩
  have hz10 := hN10.size
  replace hE := hE.trans hN10.ext
  replace hA := hA.ext hN10.ext
  replace hB2 := hB2.ext hN10.ext
  have hB10 := hN10.blk
  have hOw := (Own.of_new (n := 1) (sz := 1) hN10 rfl (by decide)).h
  refine WL_q rfl (ev_assign rfl) ?_
  refine WL_nil ?_
  refine thenE_n ?_
  refine W_seq ?_
  refine W_seq ?_
  refine W_region ?_
  refine WL_q rfl (ev_assign rfl) ?_
  refine WL_nil ?_
  refine thenE_n ?_
  refine W_block ?_
  refine W_loopC (G := Nat × Option Addr × Nat) [(2, _)] ((Subs.c rfl Subs.n)) (fun ⟨i, a, c⟩ => [(5, .slice a (bfsN A.ends 0 i).2.length c), (6, VI (i : Int))]) (fun ⟨i, a, c⟩ w' => Lo (w2.heap.size) w10 w' ∧ i ≤ (bfsN A.ends 0 i).2.length ∧ OwnH w2.heap.size w'.heap.size 0 0 w' 3 1 a (bfsN A.ends 0 i).2.length c ((bfsN A.ends 0 i).2.map VI)) (fun g => A.ends.length - g.1) (0, _, _) ((Subs.c rfl (Subs.c rfl Subs.n))) (⟨Lo.refl (by omega), ⟨Nat.zero_le _, hOw.up (by omega) (by omega)⟩⟩) ?_
  rintro ⟨i, a, c⟩ wL0 ⟨hRL0, hi', hOw⟩
  have hzL0 := hRL0.size
  replace hA := hA.lo hRL0 (by omega)
  replace hB2 := hB2.lo hRL0 (by omega)
  replace hE := hE.lo hRL0 (by omega)
  have hI := bfsN_inv hk h00 h01 i
  have hwl := hI.walk
  refine W_seq ?_
  refine W_seq ?_
  refine W_region ?_
  refine WL_q rfl (ev_move rfl) ?_
  refine WL_q rfl (ev_move rfl) ?_
  refine WL_q rfl (ev_len Try.underlying23 rfl) ?_
  refine WL_q rfl (ev_lss rfl rfl) ?_
  refine WL_nil ?_
  refine thenE_n ?_
  refine W_cond rfl (fun hg14 => ?_) (fun hg14 => ?_)
  · have hp14 := of_decide_eq_true hg14
    refine W_skip ?_
    refine thenE_n ?_
    refine W_seq ?_
    refine W_block ?_
    refine W_seq ?_
    refine W_drawE [(0, true), (1, true), (2, true), (3, true), (4, true), (7, true), (5, false), (6, true)] mixed (by kernel_rfl) rfl (by kernel_rfl) ?_
    intro wd5 hEd5 hzd5
    replace hE := hE.trans hEd5
    replace hRL0 := hRL0.trans hEd5
    replace hA := hA.ext hEd5
    replace hB2 := hB2.ext hEd5
    replace hOw := hOw.ext hEd5
    have hDd5 := Ext.refl wd5
    refine PW_q rfl rfl (fun wq hq => ev_loads st31 sz31 rfl (cellsB (hq.blk hB2)) rfl) ?_
    refine PW_q rfl rfl (fun wq hq => ev_move rfl) ?_
    refine PW_q rfl rfl (fun wq hq => ev_move rfl) ?_
    have hil : i < (bfsN A.ends 0 i).2.length := by omega
    refine PW_q rfl rfl (fun wq hq => ev_indexAddr Try.underlying23 sz3 rfl rfl ((ownt_i hOw).isSome (by omega)) (by omega) (by omega)) ?_
    have hc21 := (ownt_i hOw).cell (i := i) (by omega)
    refine PW_q rfl rfl (fun wq hq => ev_load one3 rfl (hq.cell (hc21))) ?_
    generalize hxe : (bfsN A.ends 0 i).2[i] = x
    have hxm := hI.mem _ (List.getElem_mem hil)
    rw [hxe] at hxm
    have hx1 := hxm.1
    have hx2 := hxm.2.1
    have htx := totL_le hx2
    have hnl := near_len hx2
    refine PW_q rfl rfl (fun wq hq => ev_move rfl) ?_
    refine PW_m rfl rfl (ev_call rfl (neNear_spec _ A x _ hA (by omega) (by omega) (by omega))) ?_
    rintro _ w22 ⟨a22, c22, rfl, hO22, hE22⟩
    have hz22 := hE22.size
    replace hE := hE.trans hE22
    replace hRL0 := hRL0.trans hE22
    replace hDd5 := hDd5.trans hE22
    have hI22 := own_i hO22
    refine ⟨hDd5, ?_⟩
    refine PW_q rfl rfl (fun wq hq => ev_len Try.underlying23 rfl) ?_
    replace hA := hA.ext hDd5
    replace hB2 := hB2.ext hDd5
    replace hOw := hOw.ext hDd5
    refine PW_nil ?_
    refine thenE_n ?_
    refine W_block ?_
    refine W_loopC (G := Nat × Option Addr × Nat) [(2, _), (6, _), (22, _), (23, _)] ((Subs.c rfl (Subs.c rfl (Subs.c rfl (Subs.c rfl Subs.n))))) (fun ⟨k, a2, c2⟩ => [(5, .slice a2 (bfsK A.ends 0 i x k).2.length c2), (24, VI (k : Int))]) (fun ⟨k, a2, c2⟩ w' => Rg w2.heap.size w22.heap.size wd5.heap.size w22.heap.size w22 w' ∧ k ≤ (near A.ends x).length ∧ OwnH w2.heap.size w'.heap.size wd5.heap.size w22.heap.size w' 3 1 a2 (bfsK A.ends 0 i x k).2.length c2 ((bfsK A.ends 0 i x k).2.map VI)) (fun g => (near A.ends x).length - g.1) (0, _, _) ((Subs.c (lkS rfl (by rw [bfsK_zero])) (Subs.c (lkI rfl (by omega)) Subs.n))) (⟨Rg.refl, ⟨Nat.zero_le _, by rw [bfsK_zero]; exact (hOw.hole (by omega)).up (Nat.le_refl _) (by omega)⟩⟩) ?_
    rintro ⟨k, a2, c2⟩ wL2 ⟨hRL2, hk', hOw⟩
    have hzL2 := hRL2.size
    replace hA := hA.rg hRL2 (by omega)
    replace hB2 := hB2.rg hRL2 (by omega)
    replace hI22 := hI22.rg hRL2 (by omega)
    replace hE := hE.rg hRL2 (by omega)
    replace hRL0 := hRL0.rg hRL2 (by omega)
    have hJ := bfsK_inv (k := k) hk h00 h01 hil hxe
    have hJl := hJ.len
    have hJw := hJ.walk
    have hpl : i + 1 ≤ (bfsK A.ends 0 i x k).2.length := by obtain ⟨r, hr⟩ := bfsK_pre (ends := A.ends) (v := 0) (x := x) (i := i) (k := k); rw [hr]; simp; omega
    refine W_seq ?_
    refine W_region ?_
    refine WL_q rfl (ev_lss rfl rfl) ?_
    refine WL_nil ?_
    refine thenE_n ?_
    refine W_seq ?_
    refine W_cond rfl (fun hg25 => ?_) (fun hg25 => ?_)
    · have hp25 := of_decide_eq_true hg25
      refine W_skip ?_
      refine thenE_n ?_
      refine W_seq ?_
      refine W_block ?_
      refine W_seq ?_
      refine W_region ?_
      have hkl : k < (near A.ends x).length := by omega
      obtain ⟨he1, he2⟩ := near_ok hk x _ (List.getElem_mem hkl)
      refine WL_q rfl (ev_indexAddr Try.underlying23 sz3 rfl rfl (hI22.isSome (by omega)) (by omega) (by omega)) ?_
      refine WL_q rfl (ev_load one3 rfl (hI22.cell (i := k) (by omega))) ?_
      refine WL_q rfl (ev_assign rfl) ?_
      refine WL_nil ?_
      refine thenE_n ?_
      refine W_seq ?_
      refine W_region ?_
      refine WL_q rfl (ev_move rfl) ?_
      refine WL_q rfl (ev_move rfl) ?_
      refine WL_m rfl (ev_call rfl (l1Has_spec _ _ (bfsK A.ends 0 i x k).2 _ _ (by first | rfl | omega | simp) (ownt_i hOw) (by omega))) ?_
      rintro _ w30 ⟨b30, rfl, hb30, hE30⟩
      have hz30 := hE30.size
      replace hE := hE.trans hE30
      replace hRL0 := hRL0.trans hE30
      replace hRL2 := hRL2.trans hE30
      replace hA := hA.ext hE30
      replace hB2 := hB2.ext hE30
      replace hI22 := hI22.ext hE30
      replace hOw := hOw.ext hE30
      refine WL_q rfl (ev_not rfl) ?_
      refine WL_nil ?_
      refine thenE_n ?_
      refine W_cond rfl (fun hg31 => ?_) (fun hg31 => ?_)
      · have hg30 := not_true hg31
        have hp30 := ttN hb30 hg30
        refine W_region ?_
        refine WL_q rfl (ev_move rfl) ?_
        refine WL_q rfl (ev_move rfl) ?_
        refine WL_m rfl (ev_lit1 Try.underlying23 el3 (by decide) (by decide) rfl rfl) ?_
        rintro _ w34 ⟨rfl, hN34⟩
        have hz34 := hN34.size
        replace hE := hE.trans hN34.ext
        replace hRL0 := hRL0.trans hN34.ext
        replace hRL2 := hRL2.trans hN34.ext
        replace hA := hA.ext hN34.ext
        replace hB2 := hB2.ext hN34.ext
        replace hI22 := hI22.ext hN34.ext
        replace hOw := hOw.ext hN34.ext
        have hB34 := hN34.blk
        refine WL_m rfl (ev_appendT Try.underlying23 el3 rfl (by decide) rfl rfl hOw (SAt.of_blk (cs := [_]) (ds := []) hB34) rfl (by simp [Value.oneCell']) (by omega) (by unfold maxLen; omega) (by omega)) ?_
        rintro _ w35 ⟨a35, c35, rfl, hO35, hK35, hQ35⟩
        have hz35 := hK35.size
        replace hE := hE.rg hK35 (by omega)
        replace hRL0 := hRL0.rg hK35 (by omega)
        replace hRL2 := hRL2.rg hK35 (by omega)
        replace hA := hA.rg hK35 (by omega)
        replace hB2 := hB2.rg hK35 (by omega)
        replace hI22 := hI22.rg hK35 (by omega)
        replace hB34 := hB34.rg hK35 (by omega)
        replace hOw := hO35
        replace hOw := ownt_snocI hOw
        refine WL_q rfl (ev_assign rfl) ?_
        refine WL_nil ?_
        refine blockE_n ?_
        refine thenE_n ?_
        refine W_region ?_
        refine WL_q rfl (ev_add rfl rfl (by omega)) ?_
        refine WL_q rfl (ev_move rfl) ?_
        refine WL_nil ?_
        refine thenE_n ?_
        have hbm := bmem_iff hJ he1 he2
        have hng : (bfsK A.ends 0 i x k).1[((near A.ends x)[k]).toNat] < 0 := by rw [hbm, getD_eq (by omega)] at hp30; omega
        have hsK := bfsK_new hk h00 h01 hil hxe hkl rfl (h2 := by omega) (h3 := by omega) hng
        exact ⟨(k + 1, a35, c35), (Subs.c rfl (Subs.c rfl (Subs.c rfl (Subs.c rfl Subs.n)))), (Subs.c (lkS rfl (by rw [hsK]; simp)) (Subs.c (lkI rfl (by omega)) Subs.n)), ⟨hRL2, ⟨by omega, by rw [hsK]; exact (ownt_to hOw rfl (by simp)).up (Nat.le_refl _) (by omega)⟩⟩, by first | omega | (dsimp only; omega)⟩
      · have hg30 := not_false hg31
        have hp30 := hb30.1 hg30
        refine W_skip ?_
        refine blockE_n ?_
        refine thenE_n ?_
        refine W_region ?_
        refine WL_q rfl (ev_add rfl rfl (by omega)) ?_
        refine WL_q rfl (ev_move rfl) ?_
        refine WL_nil ?_
        refine thenE_n ?_
        have hbm := bmem_iff hJ he1 he2
        have hng : ¬ (bfsK A.ends 0 i x k).1[((near A.ends x)[k]).toNat] < 0 := by rw [hbm, getD_eq (by omega)] at hp30; omega
        have hsK := bfsK_old (v := 0) (i := i) hkl rfl (h2 := by omega) hng
        exact ⟨(k + 1, a2, c2), (Subs.c rfl (Subs.c rfl (Subs.c rfl (Subs.c rfl Subs.n)))), (Subs.c (lkS rfl (by rw [hsK])) (Subs.c (lkI rfl (by omega)) Subs.n)), ⟨hRL2, ⟨by omega, by rw [hsK]; exact hOw.up (Nat.le_refl _) (by omega)⟩⟩, by first | omega | (dsimp only; omega)⟩
    · have hp25 := of_decide_eq_false hg25
      refine W_exit ?_
      refine thenE_x ?_
      refine thenE_x ?_
      refine blockE_hit ?_
      refine blockE_n ?_
      refine thenE_n ?_
      refine W_region ?_
      refine WL_q rfl (ev_move rfl) ?_
      refine WL_q rfl (ev_add rfl rfl (by omega)) ?_
      refine WL_q rfl (ev_assign rfl) ?_
      refine WL_nil ?_
      refine thenE_n ?_
      have hfull := bfsK_full (k := k) (by omega) hil hxe
      rw [hfull] at hOw
      exact ⟨(i + 1, a2, c2), (Subs.c rfl Subs.n), (Subs.c (lkS rfl (by rw [hfull])) (Subs.c (lkI rfl (by omega)) Subs.n)), ⟨hRL0, ⟨by rw [hfull] at hpl; exact hpl, (hOw.hole (by omega)).up (Nat.le_refl _) (by omega)⟩⟩, by first | omega | (dsimp only; omega)⟩
  · have hp14 := of_decide_eq_false hg14
    refine W_exit ?_
    refine thenE_x ?_
    refine thenE_x ?_
    refine blockE_hit ?_
    refine thenE_n ?_
    refine W_seq ?_
    refine W_region ?_
    refine WL_q rfl (ev_move rfl) ?_
    refine WL_q rfl (ev_assign rfl) ?_
    refine WL_nil ?_
    refine thenE_n ?_
    refine W_ret ?_
    refine ret1 rfl rfl ?_
    have he9 := reachL_done (ends := A.ends) (k := i) (by omega) (by omega)
    rw [he9] at hOw
    exact ⟨_, _, by rw [he9], hOw.1.mono (by omega), hE⟩

set_option maxRecDepth 100000 in
theorem coConnected_spec {loA hiA : Nat} (nA : NA) (A : Net) (w : World) (hA : IsNet loA hiA w nA A) (hhiA : hiA ≤ w.heap.size) (hnA : totN A ≤ 1048576) (hk : EndsOk A.ends) (h0 : 0 < A.ends.length) :
    Fn Try.prog 53 #[netV nA A] w (fun o9 w' => ∃ b, o9 = VB b ∧ (b = true ↔ Conn A) ∧ Ext w w') := by
  have hqA := totL_len A.ends
  have hmA : totL A.ends + A.ids.length + A.inputs.length ≤ 1048576 := hnA
  have hE := Ext.refl w
  refine Fn_of Try.func53 rfl rfl (by kernel_rfl) rfl ?_
  refine W_seq ?_
  refine W_region ?_
  refine WL_m rfl (ev_box rfl) ?_
  rintro _ w1 ⟨rfl, hN1⟩
  have hz1 := hN1.size
  replace hE := hE.trans hN1.ext
  replace hA := hA.ext hN1.ext
  have hB1 : Blk w1 _ _ [_, _, _] := hN1.blk
  refine WL_q rfl (ev_assign rfl) ?_
  refine WL_nil ?_
  refine thenE_n ?_
  refine W_seq ?_
  refine W_drawE [(0, true), (3, true), (4, true), (5, true), (1, false), (2, true), (6, true), (7, true)] mixed (by kernel_rfl) rfl (by kernel_rfl) ?_
  intro wd1 hEd1 hzd1
  replace hE := hE.trans hEd1
  replace hA := hA.ext hEd1
  replace hB1 := hB1.ext hEd1
  have hDd1 := Ext.refl wd1
  refine PW_q rfl rfl (fun wq hq => ev_loads st31 sz31 rfl (cellsB (hq.blk hB1)) rfl) ?_
  refine PW_q rfl rfl (fun wq hq => ev_fieldAddr fo31_0 rfl) ?_
  refine PW_q rfl rfl (fun wq hq => ev_load one29 rfl (hq.cell (hB1.cell rfl))) ?_
  refine PW_q rfl rfl (fun wq hq => ev_len Try.underlying29 rfl) ?_
  refine PW_m rfl rfl (ev_call rfl (coReach_spec _ A _ _ hA (by omega) (by omega) rfl (by assumption) (by omega))) ?_
  rintro _ w4 ⟨a4, c4, rfl, hO4, hE4⟩
  have hz4 := hE4.size
  replace hE := hE.trans hE4
  replace hDd1 := hDd1.trans hE4
  refine ⟨hDd1, ?_⟩
  refine PW_q rfl rfl (fun wq hq => ev_len Try.underlying23 rfl) ?_
  refine PW_q rfl rfl (fun wq hq => ev_eql rfl rfl) ?_
  refine PW_q rfl rfl (fun wq hq => ev_assign rfl) ?_
  replace hA := hA.ext hDd1
  replace hB1 := hB1.ext hDd1
  refine PW_nil ?_
  refine thenE_n ?_
  refine W_ret ?_
  refine ret1 rfl rfl ?_
  exact ⟨_, rfl, by rw [decide_eq_true_iff]; exact reach_all hk h0, hE⟩

set_option maxHeartbeats 4000000 in
set_option maxRecDepth 100000 in
theorem coExtend_spec {loA hiA : Nat} (nA : NA) (A : Net) {loB hiB : Nat} (nB : NA) (B : Net) (x : Int) (w : World) (hA : IsNet loA hiA w nA A) (hhiA : hiA ≤ w.heap.size) (hnA : totN A ≤ 1048576) (hB : IsNet loB hiB w nB B) (hhiB : hiB ≤ w.heap.size) (hnB : totN B ≤ 1048576) (hkA : NOk A) (hkB : NOk B) (hx : 0 ≤ x ∧ x.toNat < B.ends.length) :
    Fn Try.prog 54 #[netV nA A, netV nB B, VI x] w (fun o9 w' => ∃ a' c' ys q, o9 = .tuple #[.slice a' ys.length c', VB q] ∧ (q = true ↔ EV A B x) ∧ (EV A B x → ys = extM A.ends B.ends x) ∧ Own w.heap.size w' 3 1 a' ys.length c' (ys.map VI) ∧ ys.length ≤ 1048576 ∧ Ext w w') := by
  have hqA := totL_len A.ends
  have hmA : totL A.ends + A.ids.length + A.inputs.length ≤ 1048576 := hnA
  have hqB := totL_len B.ends
  have hmB : totL B.ends + B.ids.length + B.inputs.length ≤ 1048576 := hnB
  have hk := hkA.endsOk
  have hkb := hkB.endsOk
  have hndA := hkA.nodes
  have h0 : 0 < A.ends.length := by omega
  have hrle := reachL_le hk h0
  have hE := Ext.refl w
  refine Fn_of Try.func54 rfl rfl (by kernel_rfl) rfl ?_
  refine W_seq ?_
  refine W_region ?_
  refine WL_m rfl (ev_box rfl) ?_
  rintro _ w3 ⟨rfl, hN3⟩
  have hz3 := hN3.size
  replace hE := hE.trans hN3.ext
  replace hA := hA.ext hN3.ext
  replace hB := hB.ext hN3.ext
  have hB3 : Blk w3 _ _ [_, _, _] := hN3.blk
  refine WL_m rfl (ev_box rfl) ?_
  rintro _ w4 ⟨rfl, hN4⟩
  have hz4 := hN4.size
  replace hE := hE.trans hN4.ext
  replace hA := hA.ext hN4.ext
  replace hB := hB.ext hN4.ext
  replace hB3 := hB3.ext hN4.ext
  have hB4 : Blk w4 _ _ [_, _, _] := hN4.blk
  refine WL_q rfl (ev_assign rfl) ?_
  refine WL_q rfl (ev_assign rfl) ?_
  refine WL_nil ?_
  refine thenE_n ?_
  refine W_seq ?_
  refine W_region ?_
  refine WL_q rfl (ev_fieldAddr fo31_0 rfl) ?_
  refine WL_q rfl (ev_load one29 rfl (hB3.cell rfl)) ?_
  refine WL_q rfl (ev_len Try.underlying29 rfl) ?_
  refine WL_m rfl (ev_makeN Try.underlying23 el3 rfl rfl rfl (by omega) (by omega)) ?_
  rintro _ w17 ⟨rfl, hN17⟩
  have hz17 := hN17.size
  replace hE := hE.trans hN17.ext
  replace hA := hA.ext hN17.ext
  replace hB := hB.ext hN17.ext
  replace hB3 := hB3.ext hN17.ext
  replace hB4 := hB4.ext hN17.ext
  have hB17 := hN17.blk
  replace hB17 := rep_zero (x := -1) hB17
  refine WL_q rfl (ev_assign rfl) ?_
  refine WL_nil ?_
  refine thenE_n ?_
  refine W_seq ?_
  refine W_seq ?_
  refine W_region ?_
  refine WL_q rfl (ev_move rfl) ?_
  refine WL_q rfl (ev_len Try.underlying23 rfl) ?_
  refine WL_q rfl (ev_move rfl) ?_
  refine WL_nil ?_
  refine thenE_n ?_
  refine W_block ?_
  refine W_loopC (G := Nat) [(2, _), (3, _), (4, _), (8, _), (19, _)] ((Subs.c rfl (Subs.c rfl (Subs.c rfl (Subs.c rfl (Subs.c rfl Subs.n)))))) (fun i => [(20, VI (i : Int))]) (fun i w' => KX (w4.heap.size) w17 w' ∧ i ≤ A.ends.length ∧ Blk w' w4.heap.size 3 ((rep (-1) A.ends.length i).map VI)) (fun i => A.ends.length - i) 0 ((Subs.c (lkI rfl (by omega)) Subs.n)) (⟨KX.refl _ _, ⟨Nat.zero_le _, hB17⟩⟩) ?_
  rintro i wL0 ⟨hRL0, hi', hBo⟩
  have hzL0 := hRL0.size
  replace hA := hA.kx hRL0 (by omega)
  replace hB := hB.kx hRL0 (by omega)
  replace hB3 := hB3.kx hRL0 (by omega)
  replace hB4 := hB4.kx hRL0 (by omega)
  replace hE := hE.kx hRL0 (by omega)
  refine W_seq ?_
  refine W_region ?_
  refine WL_q rfl (ev_lss rfl rfl) ?_
  refine WL_nil ?_
  refine thenE_n ?_
  refine W_seq ?_
  refine W_cond rfl (fun hg21 => ?_) (fun hg21 => ?_)
  · have hp21 := of_decide_eq_true hg21
    refine W_skip ?_
    refine thenE_n ?_
    refine W_seq ?_
    refine W_block ?_
    refine W_seq ?_
    refine W_region ?_
    refine WL_q rfl (ev_move rfl) ?_
    refine WL_q rfl (ev_assign rfl) ?_
    refine WL_nil ?_
    refine thenE_n ?_
    refine W_region ?_
    refine WL_q rfl (ev_move rfl) ?_
    refine WL_q rfl (ev_move rfl) ?_
    refine WL_q rfl (ev_indexAddr Try.underlying23 sz3 rfl rfl rfl (by omega) (by omega)) ?_
    refine WL_s (ev_store sz3 rfl rfl rfl hBo (by rw [List.length_map, rep_len (by omega)]; omega)) ?_
    rintro _ w5_3 hS5_3
    have hz5_3 := hS5_3.size
    replace hE := hE.sto hS5_3 (by omega)
    replace hRL0 := hRL0.sto hS5_3 (by omega)
    replace hA := hA.sto hS5_3 (by omega)
    replace hB := hB.sto hS5_3 (by omega)
    replace hB3 := hB3.sto hS5_3 (by omega)
    replace hB4 := hB4.sto hS5_3 (by omega)
    replace hBo := hS5_3.blk
    replace hBo := rep_set hBo (by omega) (by omega)
    refine WL_nil ?_
    refine blockE_n ?_
    refine thenE_n ?_
    refine W_region ?_
    refine WL_q rfl (ev_add rfl rfl (by omega)) ?_
    refine WL_q rfl (ev_move rfl) ?_
    refine WL_nil ?_
    refine thenE_n ?_
    exact ⟨i + 1, (Subs.c rfl (Subs.c rfl (Subs.c rfl (Subs.c rfl (Subs.c rfl Subs.n))))), (Subs.c (lkI rfl (by omega)) Subs.n), ⟨hRL0, ⟨by omega, hBo⟩⟩, by first | omega | (dsimp only; omega)⟩
  · have hp21 := of_decide_eq_false hg21
    refine W_exit ?_
    refine thenE_x ?_
    refine thenE_x ?_
    refine blockE_hit ?_
    refine thenE_n ?_
    refine W_seq ?_
    refine W_region ?_
    refine WL_q rfl (ev_move rfl) ?_
    refine WL_q rfl (ev_move rfl) ?_
    rw [rep_full (by omega), show i = A.ends.length by omega] at hBo
    refine WL_q rfl (ev_indexAddr Try.underlying23 sz3 rfl rfl rfl (by omega) (by omega)) ?_
    refine WL_s (ev_store sz3 rfl rfl rfl hBo (by simp; omega)) ?_
    rintro _ w7_3 hS7_3
    have hz7_3 := hS7_3.size
    replace hE := hE.sto hS7_3 (by omega)
    replace hA := hA.sto hS7_3 (by omega)
    replace hB := hB.sto hS7_3 (by omega)
    replace hB3 := hB3.sto hS7_3 (by omega)
    replace hB4 := hB4.sto hS7_3 (by omega)
    replace hBo := hS7_3.blk
    replace hBo := blk_to (iset (i := 0) (by simp) hBo) (ext0 (B := B.ends))
    refine WL_nil ?_
    refine thenE_n ?_
    refine W_seq ?_
    refine W_seq ?_
    refine W_region ?_
    refine WL_q rfl (ev_loads st31 sz31 rfl (cellsB hB3) rfl) ?_
    refine WL_m rfl (ev_call rfl (coReach_spec _ A _ _ hA (by omega) (by omega) rfl (by assumption) (by omega))) ?_
    rintro _ w31 ⟨a31, c31, rfl, hO31, hE31⟩
    have hz31 := hE31.size
    replace hE := hE.trans hE31
    replace hA := hA.ext hE31
    replace hB := hB.ext hE31
    replace hB3 := hB3.ext hE31
    replace hB4 := hB4.ext hE31
    replace hBo := hBo.ext hE31
    have hI31 := own_i hO31
    refine WL_q rfl (ev_len Try.underlying23 rfl) ?_
    refine WL_q rfl (ev_move rfl) ?_
    refine WL_nil ?_
    refine thenE_n ?_
    refine W_block ?_
    refine W_loopC (G := Nat) [(3, _), (4, _), (8, _), (31, _), (32, _)] ((Subs.c rfl (Subs.c rfl (Subs.c rfl (Subs.c rfl (Subs.c rfl Subs.n)))))) (fun j => [(33, VI (j : Int))]) (fun j w' => KX (w4.heap.size) w31 w' ∧ j ≤ (reachL A.ends).length ∧ Blk w' w4.heap.size 3 ((extN A.ends B.ends x j).map VI) ∧ ∀ s, s < j → ExtAt A.ends B.ends x s) (fun j => (reachL A.ends).length - j) 0 ((Subs.c (lkI rfl (by omega)) Subs.n)) (⟨KX.refl _ _, ⟨Nat.zero_le _, hBo, fun s h => by omega⟩⟩) ?_
    rintro j wL2 ⟨hRL2, hj', hBo, hJ⟩
    have hzL2 := hRL2.size
    replace hA := hA.kx hRL2 (by omega)
    replace hB := hB.kx hRL2 (by omega)
    replace hB3 := hB3.kx hRL2 (by omega)
    replace hB4 := hB4.kx hRL2 (by omega)
    replace hI31 := hI31.kx hRL2 (by omega)
    replace hE := hE.kx hRL2 (by omega)
    have hX := extN_inv hk hkb h0 hx j (by omega) hJ
    have hXl := hX.len
    refine W_seq ?_
    refine W_region ?_
    refine WL_q rfl (ev_lss rfl rfl) ?_
    refine WL_nil ?_
    refine thenE_n ?_
    refine W_seq ?_
    refine W_cond rfl (fun hg34 => ?_) (fun hg34 => ?_)
    · have hp34 := of_decide_eq_true hg34
      refine W_skip ?_
      refine thenE_n ?_
      refine W_seq ?_
      refine W_block ?_
      refine W_seq ?_
      refine W_region ?_
      have hlj : j < (reachL A.ends).length := by omega
      refine WL_q rfl (ev_indexAddr Try.underlying23 sz3 rfl rfl (hI31.isSome (by omega)) (by omega) (by omega)) ?_
      refine WL_q rfl (ev_load one3 rfl (hI31.cell (i := j) (by omega))) ?_
      generalize hye : (reachL A.ends)[j] = y
      obtain ⟨hy1, hy2, hyin, hyx, hyd⟩ := reach_mem hk h0 hlj
      rw [hye] at hy1 hy2 hyx hyd
      have hty := totL_le hy2
      obtain ⟨hy3, hy4, hy5⟩ := hX.img hy2 hyd
      have htb := totL_le hy5
      refine WL_q rfl (ev_assign rfl) ?_
      refine WL_nil ?_
      refine thenE_n ?_
      refine W_seq ?_
      refine W_seq ?_
      refine W_drawE [(0, true), (1, true), (2, true), (3, true), (4, true), (5, true), (6, true), (7, true), (8, true), (9, true), (10, true), (11, true), (12, true), (13, true), (14, true), (15, true)] mixed (by kernel_rfl) rfl (by kernel_rfl) ?_
      intro wd11 hEd11 hzd11
      replace hE := hE.trans hEd11
      replace hRL2 := hRL2.trans hEd11
      replace hA := hA.ext hEd11
      replace hB := hB.ext hEd11
      replace hB3 := hB3.ext hEd11
      replace hB4 := hB4.ext hEd11
      replace hI31 := hI31.ext hEd11
      replace hBo := hBo.ext hEd11
      have hDd11 := Ext.refl wd11
      refine PW_q rfl rfl (fun wq hq => ev_fieldAddr fo31_0 rfl) ?_
      refine PW_q rfl rfl (fun wq hq => ev_load one29 rfl (hq.cell (hB3.cell rfl))) ?_
      refine PW_q rfl rfl (fun wq hq => ev_move rfl) ?_
      have hl40 : y.toNat < A.ends.length := by omega
      have ht40 := totL_le hl40
      obtain ⟨a40, c40, hc40, hr40⟩ := hA.ends.row hl40
      refine PW_q rfl rfl (fun wq hq => ev_indexAddr Try.underlying29 sz76 rfl rfl (hA.ends.isSome (by omega)) (by omega) (by omega)) ?_
      refine PW_q rfl rfl (fun wq hq => ev_load one76 rfl (hq.cell (hc40))) ?_
      refine PW_q rfl rfl (fun wq hq => ev_len Try.underlying76 rfl) ?_
      refine PW_q rfl rfl (fun wq hq => ev_fieldAddr fo31_0 rfl) ?_
      refine PW_q rfl rfl (fun wq hq => ev_load one29 rfl (hq.cell (hB4.cell rfl))) ?_
      refine PW_q rfl rfl (fun wq hq => ev_move rfl) ?_
      refine PW_q rfl rfl (fun wq hq => ev_move rfl) ?_
      refine PW_q rfl rfl (fun wq hq => ev_indexAddr Try.underlying23 sz3 rfl rfl rfl (by omega) (by omega)) ?_
      refine PW_q rfl rfl (fun wq hq => ev_load one3 rfl (hq.cell (icell hBo (i := y.toNat) (j := 0 + y.toNat * 1) (by omega) (by omega)))) ?_
      have hl49 : ((extN A.ends B.ends x j)[y.toNat]).toNat < B.ends.length := by omega
      have ht49 := totL_le hl49
      obtain ⟨a49, c49, hc49, hr49⟩ := hB.ends.row hl49
      refine PW_q rfl rfl (fun wq hq => ev_indexAddr Try.underlying29 sz76 rfl rfl (hB.ends.isSome (by omega)) (by omega) (by omega)) ?_
      refine PW_q rfl rfl (fun wq hq => ev_load one76 rfl (hq.cell (hc49))) ?_
      refine PW_q rfl rfl (fun wq hq => ev_len Try.underlying76 rfl) ?_
      refine PW_q rfl rfl (fun wq hq => ev_neq rfl rfl) ?_
      refine PW_nil ?_
      refine thenE_n ?_
      refine W_cond rfl (fun hg52 => ?_) (fun hg52 => ?_)
      · have hp52 := of_decide_eq_true hg52
        refine W_seq ?_
        refine W_region ?_
        refine WL_q rfl (ev_assign rfl) ?_
        refine WL_q rfl (ev_assign rfl) ?_
        refine WL_nil ?_
        refine thenE_n ?_
        refine W_ret ?_
        refine thenE_r ?_
        refine blockE_r ?_
        refine thenE_r ?_
        refine thenE_r ?_
        refine blockE_r ?_
        refine thenE_r ?_
        refine ret2 rfl rfl rfl ?_
        first | (have hn9 : ¬ EV A B x := fun h => hp52 (congrArg (fun n : Nat => (n : Int)) ((extAt_iff hlj hye hy2 hy3 hy5).1 (h.1 j hlj))); exact ⟨none, 0, [], false, rfl, ffI hn9, fun h => absurd h hn9, Own.nil _ _ _ _, by simp, hE⟩) | (exact ⟨_, _, extM A.ends B.ends x, _, by rw [hXl], ⟨fun h => ⟨hall, hb92.1 h⟩, fun h => hb92.2 h.2⟩, fun _ => rfl, by rw [hXl]; exact own_of_blk hBo (by omega) (by simp; omega) (by omega), by rw [hXl]; omega, hE⟩)
      · have hp52 := of_decide_eq_false hg52
        refine W_skip ?_
        refine thenE_n ?_
        refine W_seq ?_
        refine W_region ?_
        refine WL_q rfl (ev_fieldAddr fo31_0 rfl) ?_
        refine WL_q rfl (ev_load one29 rfl (hB3.cell rfl)) ?_
        refine WL_q rfl (ev_move rfl) ?_
        have hl56 : y.toNat < A.ends.length := by omega
        have ht56 := totL_le hl56
        obtain ⟨a56, c56, hc56, hr56⟩ := hA.ends.row hl56
        refine WL_q rfl (ev_indexAddr Try.underlying29 sz76 rfl rfl (hA.ends.isSome (by omega)) (by omega) (by omega)) ?_
        refine WL_q rfl (ev_load one76 rfl (hc56)) ?_
        refine WL_q rfl (ev_len Try.underlying76 rfl) ?_
        refine WL_q rfl (ev_move rfl) ?_
        refine WL_nil ?_
        refine thenE_n ?_
        refine W_block ?_
        have hlen : A.ends[y.toNat].length = B.ends[((extN A.ends B.ends x j)[y.toNat]).toNat].length := by omega
        refine W_loopC (G := Nat) [(3, _), (4, _), (8, _), (11, _), (31, _), (32, _), (33, _), (57, _), (58, _)] ((Subs.c rfl (Subs.c rfl (Subs.c rfl (Subs.c rfl (Subs.c rfl (Subs.c rfl (Subs.c rfl (Subs.c rfl (Subs.c rfl Subs.n)))))))))) (fun k => [(59, VI (k : Int))]) (fun k w' => KX (w4.heap.size) wd11 w' ∧ k ≤ A.ends[y.toNat].length ∧ Blk w' w4.heap.size 3 ((extR A.ends[y.toNat] B.ends[((extN A.ends B.ends x j)[y.toNat]).toNat] (extN A.ends B.ends x j) k).map VI)) (fun k => A.ends[y.toNat].length - k) 0 ((Subs.c (lkI rfl (by omega)) Subs.n)) (⟨KX.refl _ _, ⟨Nat.zero_le _, hBo⟩⟩) ?_
        rintro k wL4 ⟨hRL4, hk', hBo⟩
        have hzL4 := hRL4.size
        replace hA := hA.kx hRL4 (by omega)
        replace hB := hB.kx hRL4 (by omega)
        replace hB3 := hB3.kx hRL4 (by omega)
        replace hB4 := hB4.kx hRL4 (by omega)
        replace hI31 := hI31.kx hRL4 (by omega)
        replace hr40 := hr40.kx hRL4 (by omega)
        replace hr49 := hr49.kx hRL4 (by omega)
        replace hr56 := hr56.kx hRL4 (by omega)
        replace hE := hE.kx hRL4 (by omega)
        replace hRL2 := hRL2.kx hRL4 (by omega)
        have hRl := extR_len (row := A.ends[y.toNat]) (brow := B.ends[((extN A.ends B.ends x j)[y.toNat]).toNat]) (m := (extN A.ends B.ends x j)) k
        have hRy := extR_at (row := A.ends[y.toNat]) (brow := B.ends[((extN A.ends B.ends x j)[y.toNat]).toNat]) (k := k) hy3 hy4 (by omega)
        refine W_seq ?_
        refine W_region ?_
        refine WL_q rfl (ev_lss rfl rfl) ?_
        refine WL_nil ?_
        refine thenE_n ?_
        refine W_seq ?_
        refine W_cond rfl (fun hg60 => ?_) (fun hg60 => ?_)
        · have hp60 := of_decide_eq_true hg60
          refine W_skip ?_
          refine thenE_n ?_
          refine W_seq ?_
          refine W_block ?_
          refine W_seq ?_
          refine W_region ?_
          refine WL_q rfl (ev_move rfl) ?_
          have hlk : k < A.ends[y.toNat].length := by omega
          have hlkb : k < B.ends[((extN A.ends B.ends x j)[y.toNat]).toNat].length := by omega
          obtain ⟨he1, he2⟩ := hk.at hy2 hlk
          refine WL_q rfl (ev_indexAddr Try.underlying76 sz104 rfl rfl (hr56.isSome (by omega)) (by omega) (by omega)) ?_
          refine WL_q rfl (ev_loads st104 sz104 rfl (hr56.cells (i := k) (by omega)) rfl) ?_
          refine WL_m rfl (ev_alloc zr104) ?_
          rintro _ w13 ⟨rfl, hN13⟩
          have hz13 := hN13.size
          replace hE := hE.trans hN13.ext
          replace hRL2 := hRL2.trans hN13.ext
          replace hRL4 := hRL4.trans hN13.ext
          replace hA := hA.ext hN13.ext
          replace hB := hB.ext hN13.ext
          replace hB3 := hB3.ext hN13.ext
          replace hB4 := hB4.ext hN13.ext
          replace hI31 := hI31.ext hN13.ext
          replace hr40 := hr40.ext hN13.ext
          replace hr49 := hr49.ext hN13.ext
          replace hr56 := hr56.ext hN13.ext
          replace hBo := hBo.ext hN13.ext
          have hB13 : Blk w13 _ _ [_, _] := hN13.blk
          refine WL_q rfl (ev_assign rfl) ?_
          refine WL_s (ev_stores sz104 rfl rfl rfl (by simp [Value.oneCell']) hB13 (by simp)) ?_
          rintro _ w15_5 hS15_5
          have hz15_5 := hS15_5.size
          replace hE := hE.sto hS15_5 (by omega)
          replace hRL2 := hRL2.sto hS15_5 (by omega)
          replace hRL4 := hRL4.sto hS15_5 (by omega)
          replace hA := hA.sto hS15_5 (by omega)
          replace hB := hB.sto hS15_5 (by omega)
          replace hB3 := hB3.sto hS15_5 (by omega)
          replace hB4 := hB4.sto hS15_5 (by omega)
          replace hI31 := hI31.sto hS15_5 (by omega)
          replace hr40 := hr40.sto hS15_5 (by omega)
          replace hr49 := hr49.sto hS15_5 (by omega)
          replace hr56 := hr56.sto hS15_5 (by omega)
          replace hBo := hBo.sto hS15_5 (by omega)
          replace hB13 : Blk w15_5 _ _ [_, _] := hS15_5.blk
          refine WL_nil ?_
          refine thenE_n ?_
          refine W_seq ?_
          refine W_region ?_
          refine WL_q rfl (ev_move rfl) ?_
          refine WL_q rfl (ev_fieldAddr fo104_0 rfl) ?_
          refine WL_q rfl (ev_load one3 rfl (hB13.cell rfl)) ?_
          refine WL_q rfl (ev_indexAddr Try.underlying23 sz3 rfl rfl rfl (by omega) (by omega)) ?_
          refine WL_q rfl (ev_load one3 rfl (icell hBo (i := A.ends[y.toNat][k].1.toNat) (by omega) (by omega))) ?_
          refine WL_q rfl (ev_lss rfl rfl) ?_
          refine WL_nil ?_
          refine thenE_n ?_
          refine W_cond rfl (fun hg69 => ?_) (fun hg69 => ?_)
          · have hp69 := of_decide_eq_true hg69
            refine W_drawZ 16 w4.heap.size w4.heap.size 0 0 (fun w' => True) [(0, true), (1, true), (2, true), (3, true), (4, true), (5, true), (6, true), (7, true), (8, true), (9, true), (10, true), (11, true), (12, true), (13, true), (14, true), (15, true), (16, false)] mixed (by kernel_rfl) rfl (by kernel_rfl) (fun _ _ => trivial) ?_
            intro wd17 hEd17 hzd17
            replace hE := hE.trans hEd17
            replace hRL2 := hRL2.trans hEd17
            replace hRL4 := hRL4.trans hEd17
            replace hA := hA.ext hEd17
            replace hB := hB.ext hEd17
            replace hB3 := hB3.ext hEd17
            replace hB4 := hB4.ext hEd17
            replace hI31 := hI31.ext hEd17
            replace hr40 := hr40.ext hEd17
            replace hr49 := hr49.ext hEd17
            replace hr56 := hr56.ext hEd17
            replace hBo := hBo.ext hEd17
            replace hB13 := hB13.ext hEd17
            have hDd17 := (Rg.refl : Rg w4.heap.size w4.heap.size 0 0 wd17 wd17)
            refine PZ_q rfl rfl rfl (fun wq hq => ev_move rfl) ?_
            refine PZ_q rfl rfl rfl (fun wq hq => ev_fieldAddr fo104_0 rfl) ?_
            refine PZ_q rfl rfl rfl (fun wq hq => ev_load one3 rfl ((hB13.rg hq.1 (by omega)).cell rfl)) ?_
            refine PZ_q rfl rfl rfl (fun wq hq => ev_fieldAddr fo31_0 rfl) ?_
            refine PZ_q rfl rfl rfl (fun wq hq => ev_load one29 rfl ((hB4.rg hq.1 (by omega)).cell rfl)) ?_
            refine PZ_q rfl rfl rfl (fun wq hq => ev_move rfl) ?_
            refine PZ_q rfl rfl rfl (fun wq hq => ev_move rfl) ?_
            refine PZ_q rfl rfl rfl (fun wq hq => ev_indexAddr Try.underlying23 sz3 rfl rfl rfl (by omega) (by omega)) ?_
            refine PZ_q rfl rfl rfl (fun wq hq => ev_load one3 rfl (hq.1.cell' ((icell hBo (i := y.toNat) (j := 0 + y.toNat * 1) (by omega) (by omega)).trans (congrArg (fun z => some (VI z)) hRy)) (by omega))) ?_
            have hl79 : (((extN A.ends B.ends x j)[y.toNat])).toNat < B.ends.length := by omega
            have ht79 := totL_le hl79
            obtain ⟨a79, c79, hc79, hr79⟩ := hB.ends.row hl79
            refine PZ_q rfl rfl rfl (fun wq hq => ev_indexAddr Try.underlying29 sz76 rfl rfl (hB.ends.isSome (by omega)) (by omega) (by omega)) ?_
            refine PZ_q rfl rfl rfl (fun wq hq => ev_load one76 rfl (hq.1.cell' hc79 (by have := hB.ends.rng (Nat.lt_of_le_of_lt (Nat.zero_le _) hl79); omega))) ?_
            refine PZ_q rfl rfl rfl (fun wq hq => ev_move rfl) ?_
            refine PZ_q rfl rfl rfl (fun wq hq => ev_indexAddr Try.underlying76 sz104 rfl rfl (hr79.isSome (by omega)) (by omega) (by omega)) ?_
            refine PZ_q rfl rfl rfl (fun wq hq => ev_fieldAddr fo104_0 rfl) ?_
            refine PZ_q rfl rfl rfl (fun wq hq => ev_load one3 rfl (by have h9 := (hr79.rg hq.1 (by omega)).fst (i := k) (by omega); have e9 : (((k : Nat) : Int)).toNat = k := rfl; rw [e9]; exact h9)) ?_
            refine PZ_q rfl rfl rfl (fun wq hq => ev_indexAddr Try.underlying23 sz3 rfl rfl rfl (by omega) (by omega)) ?_
            refine PZ_z rfl (ev_store sz3 rfl rfl rfl hBo (by simp; omega)) ?_
            rintro _ w17_16 hS17_16
            have hz17_16 := hS17_16.size
            replace hE := hE.sto hS17_16 (by omega)
            replace hRL2 := hRL2.sto hS17_16 (by omega)
            replace hRL4 := hRL4.sto hS17_16 (by omega)
            replace hA := hA.sto hS17_16 (by omega)
            replace hB := hB.sto hS17_16 (by omega)
            replace hB3 := hB3.sto hS17_16 (by omega)
            replace hB4 := hB4.sto hS17_16 (by omega)
            replace hI31 := hI31.sto hS17_16 (by omega)
            replace hr40 := hr40.sto hS17_16 (by omega)
            replace hr49 := hr49.sto hS17_16 (by omega)
            replace hr56 := hr56.sto hS17_16 (by omega)
            replace hB13 := hB13.sto hS17_16 (by omega)
            replace hr79 := hr79.sto hS17_16 (by omega)
            replace hBo := hS17_16.blk
            replace hBo := iset (i := A.ends[y.toNat][k].1.toNat) (by omega) hBo
            refine PW_nil ?_
            refine blockE_n ?_
            refine thenE_n ?_
            refine W_region ?_
            refine WL_q rfl (ev_add rfl rfl (by omega)) ?_
            refine WL_q rfl (ev_move rfl) ?_
            refine WL_nil ?_
            refine thenE_n ?_
            rw [extR_new hlk hlkb (h2 := by omega) hp69] at hBo
            exact ⟨k + 1, (Subs.c rfl (Subs.c rfl (Subs.c rfl (Subs.c rfl (Subs.c rfl (Subs.c rfl (Subs.c rfl (Subs.c rfl (Subs.c rfl Subs.n))))))))), (Subs.c (lkI rfl (by omega)) Subs.n), ⟨hRL4, ⟨by omega, hBo⟩⟩, by first | omega | (dsimp only; omega)⟩
          · have hp69 := of_decide_eq_false hg69
            refine W_skip ?_
            refine blockE_n ?_
            refine thenE_n ?_
            refine W_region ?_
            refine WL_q rfl (ev_add rfl rfl (by omega)) ?_
            refine WL_q rfl (ev_move rfl) ?_
            refine WL_nil ?_
            refine thenE_n ?_
            rw [extR_old hlk (h2 := by omega) hp69] at hBo
            exact ⟨k + 1, (Subs.c rfl (Subs.c rfl (Subs.c rfl (Subs.c rfl (Subs.c rfl (Subs.c rfl (Subs.c rfl (Subs.c rfl (Subs.c rfl Subs.n))))))))), (Subs.c (lkI rfl (by omega)) Subs.n), ⟨hRL4, ⟨by omega, hBo⟩⟩, by first | omega | (dsimp only; omega)⟩
        · have hp60 := of_decide_eq_false hg60
          refine W_exit ?_
          refine thenE_x ?_
          refine thenE_x ?_
          refine blockE_hit ?_
          refine blockE_n ?_
          refine thenE_n ?_
          refine W_region ?_
          refine WL_q rfl (ev_add rfl rfl (by omega)) ?_
          refine WL_q rfl (ev_move rfl) ?_
          refine WL_nil ?_
          refine thenE_n ?_
          have hext := (extAt_iff hlj hye hy2 hy3 hy5).2 hlen
          have hk9 : k = A.ends[y.toNat].length := by omega
          subst hk9
          rw [← extN_succ hlj hye hy2 (hm := hy3) (hb := hy5)] at hBo
          exact ⟨j + 1, (Subs.c rfl (Subs.c rfl (Subs.c rfl (Subs.c rfl (Subs.c rfl Subs.n))))), (Subs.c (lkI rfl (by omega)) Subs.n), ⟨hRL2, ⟨by omega, hBo, fun s hs => by
  by_cases e : s = j
  · subst e; exact hext
  · exact hJ s (by omega)⟩⟩, by first | omega | (dsimp only; omega)⟩
    · have hp34 := of_decide_eq_false hg34
      refine W_exit ?_
      refine thenE_x ?_
      refine thenE_x ?_
      refine blockE_hit ?_
      refine thenE_n ?_
      refine W_seq ?_
      refine W_region ?_
      refine WL_q rfl (ev_move rfl) ?_
      refine WL_q rfl (ev_loads st31 sz31 rfl (cellsB hB3) rfl) ?_
      refine WL_q rfl (ev_loads st31 sz31 rfl (cellsB hB4) rfl) ?_
      refine WL_q rfl (ev_move rfl) ?_
      have hj9 := extN_stop (A := A.ends) (B := B.ends) (w := x) (k := j) (by omega)
      rw [hj9] at hBo hXl
      have hBo9 := hBo
      have hall : ExtAll A.ends B.ends x := fun s hs => hJ s (by omega)
      refine WL_m rfl (ev_call rfl (coMap_len nA nB A B _ _ (extM A.ends B.ends x) _ hXl hA hB (Blk.ints (c := A.ends.length) hBo9 (by omega)) (by omega) (by omega) (by omega) (by omega) (by omega) (by omega) hkA hkB)) ?_
      rintro _ w92 ⟨b92, rfl, hb92, hE92⟩
      have hz92 := hE92.size
      replace hE := hE.trans hE92
      replace hA := hA.ext hE92
      replace hB := hB.ext hE92
      replace hB3 := hB3.ext hE92
      replace hB4 := hB4.ext hE92
      replace hI31 := hI31.ext hE92
      replace hBo := hBo.ext hE92
      refine WL_q rfl (ev_assign rfl) ?_
      refine WL_q rfl (ev_assign rfl) ?_
      refine WL_nil ?_
      refine thenE_n ?_
      refine W_ret ?_
      refine ret2 rfl rfl rfl ?_
      first | (have hn9 : ¬ EV A B x := fun h => hp52 (congrArg (fun n : Nat => (n : Int)) ((extAt_iff hlj hye hy2 hy3 hy5).1 (h.1 j hlj))); exact ⟨none, 0, [], false, rfl, ffI hn9, fun h => absurd h hn9, Own.nil _ _ _ _, by simp, hE⟩) | (exact ⟨_, _, extM A.ends B.ends x, _, by rw [hXl], ⟨fun h => ⟨hall, hb92.1 h⟩, fun h => hb92.2 h.2⟩, fun _ => rfl, by rw [hXl]; exact own_of_blk hBo (by omega) (by simp; omega) (by omega), by rw [hXl]; omega, hE⟩)

set_option maxRecDepth 100000 in
theorem nodesOk_spec {loA hiA : Nat} (nA : NA) (A : Net) (v : Int) {loB hiB : Nat} (nB : NA) (B : Net) (x : Int) (w : World) (hA : IsNet loA hiA w nA A) (hhiA : hiA ≤ w.heap.size) (hnA : totN A ≤ 1048576) (hB : IsNet loB hiB w nB B) (hhiB : hiB ≤ w.heap.size) (hnB : totN B ≤ 1048576) :
    Fn Try.prog 55 #[netV nA A, VI v, netV nB B, VI x] w (fun o9 w' => ∃ b, o9 = VB b ∧ (b = true ↔ (NOk A ∧ NOk B) ∧ HasNode A v ∧ HasNode B x) ∧ Ext w w') := by
  have hqA := totL_len A.ends
  have hmA : totL A.ends + A.ids.length + A.inputs.length ≤ 1048576 := hnA
  have hqB := totL_len B.ends
  have hmB : totL B.ends + B.ids.length + B.inputs.length ≤ 1048576 := hnB
  have hE := Ext.refl w
  refine Fn_of Try.func55 rfl rfl (by kernel_rfl) rfl ?_
  refine W_seq ?_
  refine W_region ?_
  refine WL_m rfl (ev_box rfl) ?_
  rintro _ w4 ⟨rfl, hN4⟩
  have hz4 := hN4.size
  replace hE := hE.trans hN4.ext
  replace hA := hA.ext hN4.ext
  replace hB := hB.ext hN4.ext
  have hB4 : Blk w4 _ _ [_, _, _] := hN4.blk
  refine WL_m rfl (ev_box rfl) ?_
  rintro _ w6 ⟨rfl, hN6⟩
  have hz6 := hN6.size
  replace hE := hE.trans hN6.ext
  replace hA := hA.ext hN6.ext
  replace hB := hB.ext hN6.ext
  replace hB4 := hB4.ext hN6.ext
  have hB6 : Blk w6 _ _ [_, _, _] := hN6.blk
  refine WL_q rfl (ev_assign rfl) ?_
  refine WL_nil ?_
  refine thenE_n ?_
  refine W_seq ?_
  refine W_region ?_
  refine WL_q rfl (ev_loads st31 sz31 rfl (cellsB hB4) rfl) ?_
  refine WL_m rfl (ev_call rfl (IsNetwork_spec _ A _ hA (by omega) (by omega))) ?_
  rintro _ w10 ⟨b10, rfl, hb10, hE10⟩
  have hz10 := hE10.size
  replace hE := hE.trans hE10
  replace hA := hA.ext hE10
  replace hB := hB.ext hE10
  replace hB4 := hB4.ext hE10
  replace hB6 := hB6.ext hE10
  refine WL_q rfl (ev_move rfl) ?_
  refine WL_splitv (t := 11) rfl (fun hg10 => ?_) (fun hg10 => ?_)
  · have hp10 := hb10.1 hg10
    refine WL_qg rfl rfl hg10 rfl (ev_loads st31 sz31 rfl (cellsB hB6) rfl) ?_
    refine WL_mg rfl rfl hg10 rfl (ev_call rfl (IsNetwork_spec _ B _ hB (by omega) (by omega))) ?_
    rintro _ w13 ⟨b13, rfl, hb13, hE13⟩
    have hz13 := hE13.size
    replace hE := hE.trans hE13
    replace hA := hA.ext hE13
    replace hB := hB.ext hE13
    replace hB4 := hB4.ext hE13
    replace hB6 := hB6.ext hE13
    refine WL_q rfl (ev_pick_t rfl hg10 rfl) ?_
    refine WL_q rfl (ev_move rfl) ?_
    refine WL_splitv (t := 15) rfl (fun hg13 => ?_) (fun hg13 => ?_)
    · have hp13 := hb13.1 hg13
      refine WL_qg rfl rfl hg13 rfl (ev_loads st31 sz31 rfl (cellsB hB4) rfl) ?_
      refine WL_qg rfl rfl hg13 rfl (ev_move rfl) ?_
      refine WL_mg rfl rfl hg13 rfl (ev_call rfl (hasNode_spec _ A _ _ (by omega))) ?_
      rintro _ w18 ⟨b18, rfl, hb18, hE18⟩
      have hz18 := hE18.size
      replace hE := hE.trans hE18
      replace hA := hA.ext hE18
      replace hB := hB.ext hE18
      replace hB4 := hB4.ext hE18
      replace hB6 := hB6.ext hE18
      refine WL_q rfl (ev_pick_t rfl hg13 rfl) ?_
      refine WL_q rfl (ev_move rfl) ?_
      refine WL_splitv (t := 20) rfl (fun hg18 => ?_) (fun hg18 => ?_)
      · have hp18 := hb18.1 hg18
        refine WL_qg rfl rfl hg18 rfl (ev_loads st31 sz31 rfl (cellsB hB6) rfl) ?_
        refine WL_qg rfl rfl hg18 rfl (ev_move rfl) ?_
        refine WL_mg rfl rfl hg18 rfl (ev_call rfl (hasNode_spec _ B _ _ (by omega))) ?_
        rintro _ w23 ⟨b23, rfl, hb23, hE23⟩
        have hz23 := hE23.size
        replace hE := hE.trans hE23
        replace hA := hA.ext hE23
        replace hB := hB.ext hE23
        replace hB4 := hB4.ext hE23
        replace hB6 := hB6.ext hE23
        refine WL_q rfl (ev_pick_t rfl hg18 rfl) ?_
        refine WL_q rfl (ev_assign rfl) ?_
        refine WL_nil ?_
        refine thenE_n ?_
        refine W_ret ?_
        refine ret1 rfl rfl ?_
        first | (exact ⟨_, rfl, ⟨fun h => ⟨⟨hp10, hp13⟩, hp18, hb23.1 h⟩, fun h => hb23.2 h.2.2⟩, hE⟩) | (exact ⟨_, rfl, ffI fun h => hp18 h.2.1, hE⟩) | (exact ⟨_, rfl, ffI fun h => hp13 h.1.2, hE⟩) | (exact ⟨_, rfl, ffI fun h => hp10 h.1.1, hE⟩)
      · have hp18 := ttN hb18 hg18
        refine WL_no rfl rfl hg18 rfl ?_
        refine WL_no rfl rfl hg18 rfl ?_
        refine WL_no rfl rfl hg18 rfl ?_
        refine WL_q rfl (ev_pick_f rfl hg18 rfl) ?_
        refine WL_q rfl (ev_assign rfl) ?_
        refine WL_nil ?_
        refine thenE_n ?_
        refine W_ret ?_
        refine ret1 rfl rfl ?_
        first | (exact ⟨_, rfl, ⟨fun h => ⟨⟨hp10, hp13⟩, hp18, hb23.1 h⟩, fun h => hb23.2 h.2.2⟩, hE⟩) | (exact ⟨_, rfl, ffI fun h => hp18 h.2.1, hE⟩) | (exact ⟨_, rfl, ffI fun h => hp13 h.1.2, hE⟩) | (exact ⟨_, rfl, ffI fun h => hp10 h.1.1, hE⟩)
    · have hp13 := ttN hb13 hg13
      refine WL_no rfl rfl hg13 rfl ?_
      refine WL_no rfl rfl hg13 rfl ?_
      refine WL_no rfl rfl hg13 rfl ?_
      refine WL_q rfl (ev_pick_f rfl hg13 rfl) ?_
      refine WL_q rfl (ev_move rfl) ?_
      refine WL_no rfl rfl rfl rfl ?_
      refine WL_no rfl rfl rfl rfl ?_
      refine WL_no rfl rfl rfl rfl ?_
      refine WL_q rfl (ev_pick_f rfl rfl rfl) ?_
      refine WL_q rfl (ev_assign rfl) ?_
      refine WL_nil ?_
      refine thenE_n ?_
      refine W_ret ?_
      refine ret1 rfl rfl ?_
      first | (exact ⟨_, rfl, ⟨fun h => ⟨⟨hp10, hp13⟩, hp18, hb23.1 h⟩, fun h => hb23.2 h.2.2⟩, hE⟩) | (exact ⟨_, rfl, ffI fun h => hp18 h.2.1, hE⟩) | (exact ⟨_, rfl, ffI fun h => hp13 h.1.2, hE⟩) | (exact ⟨_, rfl, ffI fun h => hp10 h.1.1, hE⟩)
  · have hp10 := ttN hb10 hg10
    refine WL_no rfl rfl hg10 rfl ?_
    refine WL_no rfl rfl hg10 rfl ?_
    refine WL_q rfl (ev_pick_f rfl hg10 rfl) ?_
    refine WL_q rfl (ev_move rfl) ?_
    refine WL_no rfl rfl rfl rfl ?_
    refine WL_no rfl rfl rfl rfl ?_
    refine WL_no rfl rfl rfl rfl ?_
    refine WL_q rfl (ev_pick_f rfl rfl rfl) ?_
    refine WL_q rfl (ev_move rfl) ?_
    refine WL_no rfl rfl rfl rfl ?_
    refine WL_no rfl rfl rfl rfl ?_
    refine WL_no rfl rfl rfl rfl ?_
    refine WL_q rfl (ev_pick_f rfl rfl rfl) ?_
    refine WL_q rfl (ev_assign rfl) ?_
    refine WL_nil ?_
    refine thenE_n ?_
    refine W_ret ?_
    refine ret1 rfl rfl ?_
    first | (exact ⟨_, rfl, ⟨fun h => ⟨⟨hp10, hp13⟩, hp18, hb23.1 h⟩, fun h => hb23.2 h.2.2⟩, hE⟩) | (exact ⟨_, rfl, ffI fun h => hp18 h.2.1, hE⟩) | (exact ⟨_, rfl, ffI fun h => hp13 h.1.2, hE⟩) | (exact ⟨_, rfl, ffI fun h => hp10 h.1.1, hE⟩)

set_option maxHeartbeats 4000000 in
set_option maxRecDepth 100000 in
theorem extendMap_spec {loA hiA : Nat} (nA : NA) (A : Net) {loB hiB : Nat} (nB : NA) (B : Net) (x : Int) (w : World) (hA : IsNet loA hiA w nA A) (hhiA : hiA ≤ w.heap.size) (hnA : totN A ≤ 1048576) (hB : IsNet loB hiB w nB B) (hhiB : hiB ≤ w.heap.size) (hnB : totN B ≤ 1048576) (hkA : NOk A) (hkB : NOk B) (hx : 0 ≤ x ∧ x.toNat < B.ends.length) :
    Fn Try.prog 57 #[netV nA A, netV nB B, VI x] w (fun r w' => ∃ a' c' ys, r = .slice a' ys.length c' ∧ (a'.isNone = false ↔ EV A B x) ∧ (EV A B x → ys = extM A.ends B.ends x) ∧ (¬ EV A B x → ys = []) ∧ Own w.heap.size w' 3 1 a' ys.length c' (ys.map VI) ∧ Ext w w') := by
  have hqA := totL_len A.ends
  have hmA : totL A.ends + A.ids.length + A.inputs.length ≤ 1048576 := hnA
  have hqB := totL_len B.ends
  have hmB : totL B.ends + B.ids.length + B.inputs.length ≤ 1048576 := hnB
  have hk := hkA.endsOk
  have hkb := hkB.endsOk
  have hndA := hkA.nodes
  have h0 : 0 < A.ends.length := by omega
  have hrle := reachL_le hk h0
  have h00 : (0 : Int) ≤ 0 := by omega
  have h01 : (0 : Int).toNat < A.ends.length := by omega
  have hE := Ext.refl w
  refine Fn_of Try.func57 rfl rfl (by kernel_rfl) rfl ?_
  refine W_seq ?_
  refine W_region ?_
  refine WL_m rfl (ev_box rfl) ?_
  rintro _ w3 ⟨rfl, hN3⟩
  have hz3 := hN3.size
  replace hE := hE.trans hN3.ext
  replace hA := hA.ext hN3.ext
  replace hB := hB.ext hN3.ext
  have hB3 : Blk w3 _ _ [_, _, _] := hN3.blk
  refine WL_m rfl (ev_box rfl) ?_
  rintro _ w4 ⟨rfl, hN4⟩
  have hz4 := hN4.size
  replace hE := hE.trans hN4.ext
  replace hA := hA.ext hN4.ext
  replace hB := hB.ext hN4.ext
  replace hB3 := hB3.ext hN4.ext
  have hB4 : Blk w4 _ _ [_, _, _] := hN4.blk
  refine WL_q rfl (ev_assign rfl) ?_
  refine WL_nil ?_
  refine thenE_n ?_
  refine W_seq ?_
  refine W_region ?_
  refine WL_m rfl (ev_lit1 Try.underlying23 el3 (by decide) (by decide) rfl rfl) ?_
  rintro _ w12 ⟨rfl, hN12⟩
  have hz12 := hN12.size
  replace hE := hE.trans hN12.ext
  replace hA := hA.ext hN12.ext
  replace hB := hB.ext hN12.ext
  replace hB3 := hB3.ext hN12.ext
  replace hB4 := hB4.ext hN12.ext
  have hB12 := hN12.blk
  refine WL_q rfl (ev_fieldAddr fo31_0 rfl) ?_
  refine WL_q rfl (ev_load one29 rfl (hB3.cell rfl)) ?_
  refine WL_q rfl (ev_len Try.underlying29 rfl) ?_
  refine WL_m rfl (ev_call rfl (Repeat_one _ _ (-1) A.ends.length _ (Blk.ints (ys := [-1]) hB12 (by simp)) (by omega) (by omega) (by omega))) ?_
  rintro _ w16 ⟨rfl, hR16, hE16⟩
  have hz16 := hE16.size
  replace hE := hE.trans hE16
  replace hA := hA.ext hE16
  replace hB := hB.ext hE16
  replace hB3 := hB3.ext hE16
  replace hB4 := hB4.ext hE16
  replace hB12 := hB12.ext hE16
  have hb16 := hR16.lt
  refine WL_q rfl (ev_assign rfl) ?_
  refine WL_nil ?_
  refine thenE_n ?_
  refine W_seq ?_
  refine W_region ?_
  refine WL_q rfl (ev_move rfl) ?_
  refine WL_q rfl (ev_move rfl) ?_
  refine WL_q rfl (ev_indexAddr Try.underlying23 sz3 rfl rfl rfl (by omega) (by omega)) ?_
  refine WL_s (ev_store sz3 rfl rfl rfl hR16 (by simp; omega)) ?_
  rintro _ w2_3 hS2_3
  have hz2_3 := hS2_3.size
  replace hE := hE.sto hS2_3 (by omega)
  replace hA := hA.sto hS2_3 (by omega)
  replace hB := hB.sto hS2_3 (by omega)
  replace hB3 := hB3.sto hS2_3 (by omega)
  replace hB4 := hB4.sto hS2_3 (by omega)
  replace hB12 := hB12.sto hS2_3 (by omega)
  replace hR16 := hS2_3.blk
  replace hR16 := blk_to (iset (i := 0) (by simp) hR16) (ext0 (B := B.ends))
  refine WL_nil ?_
  refine thenE_n ?_
  refine W_seq ?_
  refine W_region ?_
  refine WL_m rfl (ev_lit1 Try.underlying23 el3 (by decide) (by decide) rfl rfl) ?_
  rintro _ w20 ⟨rfl, hN20⟩
  have hz20 := hN20.size
  replace hE := hE.trans hN20.ext
  replace hA := hA.ext hN20.ext
  replace hB := hB.ext hN20.ext
  replace hB3 := hB3.ext hN20.ext
  replace hB4 := hB4.ext hN20.ext
  replace hB12 := hB12.ext hN20.ext
  replace hR16 := hR16.ext hN20.ext
  have hB20 := hN20.blk
  have hOq := Own.q (Own.of_new (n := 1) (sz := 1) hN20 rfl (by decide))
  refine WL_q rfl (ev_assign rfl) ?_
  refine WL_nil ?_
  refine thenE_n ?_
  refine W_seq ?_
  refine W_block ?_
  refine W_loopC (G := Nat × Option Addr × Nat) [(3, _), (4, _), (7, _)] ((Subs.c rfl (Subs.c rfl (Subs.c rfl Subs.n)))) (fun ⟨i, a, c⟩ => [(8, .slice a ((bfsN A.ends 0 i).2.drop i).length c)]) (fun ⟨i, a, c⟩ w' => Lo (w12.heap.size) w20 w' ∧ i ≤ (bfsN A.ends 0 i).2.length ∧ (∀ s, s < i → ExtAt A.ends B.ends x s) ∧ Blk w' w12.heap.size 3 ((extN A.ends B.ends x i).map VI) ∧ OwnQ w16.heap.size w'.heap.size w' 3 1 a ((bfsN A.ends 0 i).2.drop i).length c (((bfsN A.ends 0 i).2.drop i).map VI)) (fun g => A.ends.length - g.1) (0, _, _) ((Subs.c rfl Subs.n)) (⟨Lo.refl (by omega), ⟨by simp, fun s h => by omega, hR16, hOq.up (by omega) (by omega)⟩⟩) ?_
  rintro ⟨i, a, c⟩ wL0 ⟨hRL0, hi', hJ, hBo, hOq⟩
  have hzL0 := hRL0.size
  replace hA := hA.lo hRL0 (by omega)
  replace hB := hB.lo hRL0 (by omega)
  replace hB3 := hB3.lo hRL0 (by omega)
  replace hB4 := hB4.lo hRL0 (by omega)
  replace hB12 := hB12.lo hRL0 (by omega)
  replace hE := hE.lo hRL0 (by omega)
  have hI := bfsN_inv hk h00 h01 i
  have hwl := hI.walk
  have hbl := hI.len
  have hiR : i ≤ (reachL A.ends).length := by have := reachL_len (ends := A.ends) (k := i) (by omega); omega
  have hX := extN_inv hk hkb h0 hx i hiR hJ
  have hXl := hX.len
  refine W_seq ?_
  refine W_seq ?_
  refine W_region ?_
  refine WL_q rfl (ev_move rfl) ?_
  refine WL_q rfl (ev_len Try.underlying23 rfl) ?_
  refine WL_q rfl (ev_gtr rfl rfl) ?_
  refine WL_nil ?_
  refine thenE_n ?_
  refine W_cond rfl (fun hg23 => ?_) (fun hg23 => ?_)
  · have hp23 := of_decide_eq_true hg23
    refine W_skip ?_
    refine thenE_n ?_
    refine W_block ?_
    refine W_seq ?_
    refine W_region ?_
    refine WL_q rfl (ev_move rfl) ?_
    have hil : i < (bfsN A.ends 0 i).2.length := by simp at hp23; omega
    refine WL_q rfl (ev_indexAddr Try.underlying23 sz3 rfl rfl ((ownq_i hOq).isSome (by omega)) (by omega) (by omega)) ?_
    refine WL_q rfl (ev_load one3 rfl ((ownq_i hOq).cell (i := 0) (by omega))) ?_
    generalize hgx : (((bfsN A.ends 0 i).2.drop i)[0]'(by simp; omega)) = y
    have hyx : (bfsN A.ends 0 i).2[i] = y := by rw [← hgx, drop_at (by simp; omega) hil]
    have hlj : i < (reachL A.ends).length := by have := reachL_len (ends := A.ends) (k := i) (by omega); omega
    have hye : (reachL A.ends)[i] = y := by rw [← reachL_at (by omega) hil hlj]; exact hyx
    obtain ⟨hy1, hy2, _, _, hyd⟩ := reach_mem hk h0 hlj
    rw [hye] at hy1 hy2 hyd
    have hty := totL_le hy2
    obtain ⟨hy3, hy4, hy5⟩ := hX.img hy2 hyd
    have htb := totL_le hy5
    refine WL_q rfl (ev_assign rfl) ?_
    refine WL_nil ?_
    refine thenE_n ?_
    refine W_seq ?_
    refine W_region ?_
    refine WL_q rfl (ev_move rfl) ?_
    refine WL_q rfl (ev_slice_lo Try.underlying23 sz3 rfl rfl (by omega) (by simp; omega) (hOq.cap.1)) ?_
    replace hOq := ownq_to (ownq_drop1 hOq rfl (by simp; omega)) (List.tail_drop (l := (bfsN A.ends 0 i).2) (i := i)) rfl
    refine WL_q rfl (ev_assign rfl) ?_
    refine WL_nil ?_
    refine thenE_n ?_
    refine W_seq ?_
    refine W_seq ?_
    refine W_drawE [(0, true), (1, true), (2, true), (3, true), (4, true), (5, true), (6, true), (7, true), (8, true), (9, true), (10, true), (11, true), (12, true), (13, true), (14, true), (15, true)] mixed (by kernel_rfl) rfl (by kernel_rfl) ?_
    intro wd7 hEd7 hzd7
    replace hE := hE.trans hEd7
    replace hRL0 := hRL0.trans hEd7
    replace hA := hA.ext hEd7
    replace hB := hB.ext hEd7
    replace hB3 := hB3.ext hEd7
    replace hB4 := hB4.ext hEd7
    replace hB12 := hB12.ext hEd7
    replace hBo := hBo.ext hEd7
    replace hOq := hOq.ext hEd7
    have hDd7 := Ext.refl wd7
    refine PW_q rfl rfl (fun wq hq => ev_fieldAddr fo31_0 rfl) ?_
    refine PW_q rfl rfl (fun wq hq => ev_load one29 rfl (hq.cell (hB3.cell rfl))) ?_
    refine PW_q rfl rfl (fun wq hq => ev_move rfl) ?_
    have hl32 : y.toNat < A.ends.length := by omega
    have ht32 := totL_le hl32
    obtain ⟨a32, c32, hc32, hr32⟩ := hA.ends.row hl32
    refine PW_q rfl rfl (fun wq hq => ev_indexAddr Try.underlying29 sz76 rfl rfl (hA.ends.isSome (by omega)) (by omega) (by omega)) ?_
    refine PW_q rfl rfl (fun wq hq => ev_load one76 rfl (hq.cell (hc32))) ?_
    refine PW_q rfl rfl (fun wq hq => ev_len Try.underlying76 rfl) ?_
    refine PW_q rfl rfl (fun wq hq => ev_fieldAddr fo31_0 rfl) ?_
    refine PW_q rfl rfl (fun wq hq => ev_load one29 rfl (hq.cell (hB4.cell rfl))) ?_
    refine PW_q rfl rfl (fun wq hq => ev_move rfl) ?_
    refine PW_q rfl rfl (fun wq hq => ev_move rfl) ?_
    refine PW_q rfl rfl (fun wq hq => ev_indexAddr Try.underlying23 sz3 rfl rfl rfl (by omega) (by omega)) ?_
    refine PW_q rfl rfl (fun wq hq => ev_load one3 rfl (hq.cell (icell hBo (i := y.toNat) (j := 0 + y.toNat * 1) (by omega) (by omega)))) ?_
    have hl41 : ((extN A.ends B.ends x i)[y.toNat]).toNat < B.ends.length := by omega
    have ht41 := totL_le hl41
    obtain ⟨a41, c41, hc41, hr41⟩ := hB.ends.row hl41
    refine PW_q rfl rfl (fun wq hq => ev_indexAddr Try.underlying29 sz76 rfl rfl (hB.ends.isSome (by omega)) (by omega) (by omega)) ?_
    refine PW_q rfl rfl (fun wq hq => ev_load one76 rfl (hq.cell (hc41))) ?_
    refine PW_q rfl rfl (fun wq hq => ev_len Try.underlying76 rfl) ?_
    refine PW_q rfl rfl (fun wq hq => ev_neq rfl rfl) ?_
    refine PW_nil ?_
    refine thenE_n ?_
    refine W_cond rfl (fun hg44 => ?_) (fun hg44 => ?_)
    · have hp44 := of_decide_eq_true hg44
      refine W_seq ?_
      refine W_region ?_
      refine WL_q rfl (ev_assign rfl) ?_
      refine WL_nil ?_
      refine thenE_n ?_
      refine W_ret ?_
      refine thenE_r ?_
      refine blockE_r ?_
      refine thenE_r ?_
      refine blockE_r ?_
      refine thenE_r ?_
      refine ret1 rfl rfl ?_
      first | (have hn9 : ¬ EV A B x := fun h => hp44 (congrArg (fun n : Nat => (n : Int)) ((extAt_iff hlj hye hy2 hy3 hy5).1 (h.1 i hlj))); exact ⟨none, 0, [], rfl, ⟨fun h => (by cases h), fun h => absurd h hn9⟩, fun h => absurd h hn9, fun _ => rfl, Own.nil _ _ _ _, hE⟩) | (exact ⟨_, _, extM A.ends B.ends x, by rw [hXl], ⟨fun _ => ⟨hall, hp87⟩, fun _ => rfl⟩, fun _ => rfl, fun h => absurd ⟨hall, hp87⟩ h, by rw [hXl]; exact own_of_blk hBo (by omega) (by simp; omega) (by omega), hE⟩) | (have hn9 : ¬ EV A B x := fun h => hp87 h.2; exact ⟨none, 0, [], rfl, ⟨fun h => (by cases h), fun h => absurd h hn9⟩, fun h => absurd h hn9, fun _ => rfl, Own.nil _ _ _ _, hE⟩)
    · have hp44 := of_decide_eq_false hg44
      refine W_skip ?_
      refine thenE_n ?_
      refine W_seq ?_
      refine W_region ?_
      refine WL_q rfl (ev_fieldAddr fo31_0 rfl) ?_
      refine WL_q rfl (ev_load one29 rfl (hB3.cell rfl)) ?_
      refine WL_q rfl (ev_move rfl) ?_
      have hl48 : y.toNat < A.ends.length := by omega
      have ht48 := totL_le hl48
      obtain ⟨a48, c48, hc48, hr48⟩ := hA.ends.row hl48
      refine WL_q rfl (ev_indexAddr Try.underlying29 sz76 rfl rfl (hA.ends.isSome (by omega)) (by omega) (by omega)) ?_
      refine WL_q rfl (ev_load one76 rfl (hc48)) ?_
      refine WL_q rfl (ev_len Try.underlying76 rfl) ?_
      refine WL_q rfl (ev_move rfl) ?_
      refine WL_nil ?_
      refine thenE_n ?_
      refine W_block ?_
      have hlen : A.ends[y.toNat].length = B.ends[((extN A.ends B.ends x i)[y.toNat]).toNat].length := by omega
      refine W_loopC (G := Nat × Option Addr × Nat) [(3, _), (4, _), (7, _), (9, _), (49, _), (50, _)] ((Subs.c rfl (Subs.c rfl (Subs.c rfl (Subs.c rfl (Subs.c rfl (Subs.c rfl Subs.n))))))) (fun ⟨k, a2, c2⟩ => [(8, .slice a2 ((bfsK A.ends 0 i y k).2.drop (i + 1)).length c2), (51, VI (k : Int))]) (fun ⟨k, a2, c2⟩ w' => Lo (w12.heap.size) wd7 w' ∧ k ≤ A.ends[y.toNat].length ∧ Blk w' w12.heap.size 3 ((extR A.ends[y.toNat] B.ends[((extN A.ends B.ends x i)[y.toNat]).toNat] (extN A.ends B.ends x i) k).map VI) ∧ OwnQ w16.heap.size w'.heap.size w' 3 1 a2 ((bfsK A.ends 0 i y k).2.drop (i + 1)).length c2 (((bfsK A.ends 0 i y k).2.drop (i + 1)).map VI)) (fun g => A.ends[y.toNat].length - g.1) (0, _, _) ((Subs.c (lkS rfl (by simp [bfsK_zero]; omega)) (Subs.c (lkI rfl (by omega)) Subs.n))) (⟨Lo.refl (by omega), ⟨by omega, hBo, (ownq_to hOq (by rw [bfsK_zero]) (by simp [bfsK_zero]; omega)).up (Nat.le_refl _) (by omega)⟩⟩) ?_
      rintro ⟨k, a2, c2⟩ wL2 ⟨hRL2, hk', hBo, hOq⟩
      have hzL2 := hRL2.size
      replace hA := hA.lo hRL2 (by omega)
      replace hB := hB.lo hRL2 (by omega)
      replace hB3 := hB3.lo hRL2 (by omega)
      replace hB4 := hB4.lo hRL2 (by omega)
      replace hB12 := hB12.lo hRL2 (by omega)
      replace hr32 := hr32.lo hRL2 (by omega)
      replace hr41 := hr41.lo hRL2 (by omega)
      replace hr48 := hr48.lo hRL2 (by omega)
      replace hE := hE.lo hRL2 (by omega)
      replace hRL0 := hRL0.lo hRL2 (by omega)
      have hJq := bfsK_inv (k := k) hk h00 h01 hil hyx
      have hJl := hJq.len
      have hJw := hJq.walk
      have hpl : i + 1 ≤ (bfsK A.ends 0 i y k).2.length := by obtain ⟨r, hr⟩ := bfsK_pre (ends := A.ends) (v := 0) (x := y) (i := i) (k := k); rw [hr]; simp; omega
      have hdl : ((bfsK A.ends 0 i y k).2.drop (i + 1)).length = (bfsK A.ends 0 i y k).2.length - (i + 1) := List.length_drop ..
      have hRl := extR_len (row := A.ends[y.toNat]) (brow := B.ends[((extN A.ends B.ends x i)[y.toNat]).toNat]) (m := (extN A.ends B.ends x i)) k
      have hRy := extR_at (row := A.ends[y.toNat]) (brow := B.ends[((extN A.ends B.ends x i)[y.toNat]).toNat]) (k := k) hy3 hy4 (by omega)
      have hXR := extR_inv (k := k) hk h0 hil hyx hy2 hX hlen.symm (fun e he => by obtain ⟨q, hq, rfl⟩ := List.mem_iff_getElem.1 he; exact hkb.at hy5 hq) hk'
      refine W_seq ?_
      refine W_region ?_
      refine WL_q rfl (ev_lss rfl rfl) ?_
      refine WL_nil ?_
      refine thenE_n ?_
      refine W_seq ?_
      refine W_cond rfl (fun hg52 => ?_) (fun hg52 => ?_)
      · have hp52 := of_decide_eq_true hg52
        refine W_skip ?_
        refine thenE_n ?_
        refine W_seq ?_
        refine W_block ?_
        refine W_seq ?_
        refine W_region ?_
        refine WL_q rfl (ev_move rfl) ?_
        have hlk : k < A.ends[y.toNat].length := by omega
        have hlkb : k < B.ends[((extN A.ends B.ends x i)[y.toNat]).toNat].length := by omega
        obtain ⟨he1, he2⟩ := hk.at hy2 hlk
        have hkl : k < (near A.ends y).length := by rw [near_len hy2]; exact hlk
        refine WL_q rfl (ev_indexAddr Try.underlying76 sz104 rfl rfl (hr48.isSome (by omega)) (by omega) (by omega)) ?_
        refine WL_q rfl (ev_loads st104 sz104 rfl (hr48.cells (i := k) (by omega)) rfl) ?_
        refine WL_m rfl (ev_alloc zr104) ?_
        rintro _ w11 ⟨rfl, hN11⟩
        have hz11 := hN11.size
        replace hE := hE.trans hN11.ext
        replace hRL0 := hRL0.trans hN11.ext
        replace hRL2 := hRL2.trans hN11.ext
        replace hA := hA.ext hN11.ext
        replace hB := hB.ext hN11.ext
        replace hB3 := hB3.ext hN11.ext
        replace hB4 := hB4.ext hN11.ext
        replace hB12 := hB12.ext hN11.ext
        replace hr32 := hr32.ext hN11.ext
        replace hr41 := hr41.ext hN11.ext
        replace hr48 := hr48.ext hN11.ext
        replace hBo := hBo.ext hN11.ext
        replace hOq := hOq.ext hN11.ext
        have hB11 : Blk w11 _ _ [_, _] := hN11.blk
        refine WL_q rfl (ev_assign rfl) ?_
        refine WL_s (ev_stores sz104 rfl rfl rfl (by simp [Value.oneCell']) hB11 (by simp)) ?_
        rintro _ w11_5 hS11_5
        have hz11_5 := hS11_5.size
        replace hE := hE.sto hS11_5 (by omega)
        replace hRL0 := hRL0.sto hS11_5 (by omega)
        replace hRL2 := hRL2.sto hS11_5 (by omega)
        replace hA := hA.sto hS11_5 (by omega)
        replace hB := hB.sto hS11_5 (by omega)
        replace hB3 := hB3.sto hS11_5 (by omega)
        replace hB4 := hB4.sto hS11_5 (by omega)
        replace hB12 := hB12.sto hS11_5 (by omega)
        replace hr32 := hr32.sto hS11_5 (by omega)
        replace hr41 := hr41.sto hS11_5 (by omega)
        replace hr48 := hr48.sto hS11_5 (by omega)
        replace hBo := hBo.sto hS11_5 (by omega)
        replace hOq := hOq.sto hS11_5 (by omega)
        replace hB11 : Blk w11_5 _ _ [_, _] := hS11_5.blk
        refine WL_nil ?_
        refine thenE_n ?_
        refine W_seq ?_
        refine W_region ?_
        refine WL_q rfl (ev_move rfl) ?_
        refine WL_q rfl (ev_fieldAddr fo104_0 rfl) ?_
        refine WL_q rfl (ev_load one3 rfl (hB11.cell rfl)) ?_
        refine WL_q rfl (ev_indexAddr Try.underlying23 sz3 rfl rfl rfl (by omega) (by omega)) ?_
        refine WL_q rfl (ev_load one3 rfl (icell hBo (i := A.ends[y.toNat][k].1.toNat) (by omega) (by omega))) ?_
        refine WL_q rfl (ev_lss rfl rfl) ?_
        refine WL_nil ?_
        refine thenE_n ?_
        refine W_cond rfl (fun hg61 => ?_) (fun hg61 => ?_)
        · have hp61 := of_decide_eq_true hg61
          refine W_seq ?_
          refine W_drawZ 16 w12.heap.size w12.heap.size 0 0 (fun w' => True) [(0, true), (1, true), (2, true), (3, true), (4, true), (5, true), (6, true), (7, true), (8, true), (9, true), (10, true), (11, true), (12, true), (13, true), (14, true), (15, true), (16, false)] mixed (by kernel_rfl) rfl (by kernel_rfl) (fun _ _ => trivial) ?_
          intro wd13 hEd13 hzd13
          replace hE := hE.trans hEd13
          replace hRL0 := hRL0.trans hEd13
          replace hRL2 := hRL2.trans hEd13
          replace hA := hA.ext hEd13
          replace hB := hB.ext hEd13
          replace hB3 := hB3.ext hEd13
          replace hB4 := hB4.ext hEd13
          replace hB12 := hB12.ext hEd13
          replace hr32 := hr32.ext hEd13
          replace hr41 := hr41.ext hEd13
          replace hr48 := hr48.ext hEd13
          replace hBo := hBo.ext hEd13
          replace hOq := hOq.ext hEd13
          replace hB11 := hB11.ext hEd13
          have hDd13 := (Rg.refl : Rg w12.heap.size w12.heap.size 0 0 wd13 wd13)
          refine PZ_q rfl rfl rfl (fun wq hq => ev_move rfl) ?_
          refine PZ_q rfl rfl rfl (fun wq hq => ev_fieldAddr fo104_0 rfl) ?_
          refine PZ_q rfl rfl rfl (fun wq hq => ev_load one3 rfl ((hB11.rg hq.1 (by omega)).cell rfl)) ?_
          refine PZ_q rfl rfl rfl (fun wq hq => ev_fieldAddr fo31_0 rfl) ?_
          refine PZ_q rfl rfl rfl (fun wq hq => ev_load one29 rfl ((hB4.rg hq.1 (by omega)).cell rfl)) ?_
          refine PZ_q rfl rfl rfl (fun wq hq => ev_move rfl) ?_
          refine PZ_q rfl rfl rfl (fun wq hq => ev_move rfl) ?_
          refine PZ_q rfl rfl rfl (fun wq hq => ev_indexAddr Try.underlying23 sz3 rfl rfl rfl (by omega) (by omega)) ?_
          refine PZ_q rfl rfl rfl (fun wq hq => ev_load one3 rfl (hq.1.cell' ((icell hBo (i := y.toNat) (j := 0 + y.toNat * 1) (by omega) (by omega)).trans (congrArg (fun z => some (VI z)) hRy)) (by omega))) ?_
          have hl71 : (((extN A.ends B.ends x i)[y.toNat])).toNat < B.ends.length := by omega
          have ht71 := totL_le hl71
          obtain ⟨a71, c71, hc71, hr71⟩ := hB.ends.row hl71
          refine PZ_q rfl rfl rfl (fun wq hq => ev_indexAddr Try.underlying29 sz76 rfl rfl (hB.ends.isSome (by omega)) (by omega) (by omega)) ?_
          refine PZ_q rfl rfl rfl (fun wq hq => ev_load one76 rfl (hq.1.cell' hc71 (by have := hB.ends.rng (Nat.lt_of_le_of_lt (Nat.zero_le _) hl71); omega))) ?_
          refine PZ_q rfl rfl rfl (fun wq hq => ev_move rfl) ?_
          refine PZ_q rfl rfl rfl (fun wq hq => ev_indexAddr Try.underlying76 sz104 rfl rfl (hr71.isSome (by omega)) (by omega) (by omega)) ?_
          refine PZ_q rfl rfl rfl (fun wq hq => ev_fieldAddr fo104_0 rfl) ?_
          refine PZ_q rfl rfl rfl (fun wq hq => ev_load one3 rfl (by have h9 := (hr71.rg hq.1 (by omega)).fst (i := k) (by omega); have e9 : (((k : Nat) : Int)).toNat = k := rfl; rw [e9]; exact h9)) ?_
          refine PZ_q rfl rfl rfl (fun wq hq => ev_indexAddr Try.underlying23 sz3 rfl rfl rfl (by omega) (by omega)) ?_
          refine PZ_z rfl (ev_store sz3 rfl rfl rfl hBo (by simp; omega)) ?_
          rintro _ w13_16 hS13_16
          have hz13_16 := hS13_16.size
          replace hE := hE.sto hS13_16 (by omega)
          replace hRL0 := hRL0.sto hS13_16 (by omega)
          replace hRL2 := hRL2.sto hS13_16 (by omega)
          replace hA := hA.sto hS13_16 (by omega)
          replace hB := hB.sto hS13_16 (by omega)
          replace hB3 := hB3.sto hS13_16 (by omega)
          replace hB4 := hB4.sto hS13_16 (by omega)
          replace hB12 := hB12.sto hS13_16 (by omega)
          replace hr32 := hr32.sto hS13_16 (by omega)
          replace hr41 := hr41.sto hS13_16 (by omega)
          replace hr48 := hr48.sto hS13_16 (by omega)
          replace hOq := hOq.sto hS13_16 (by omega)
          replace hB11 := hB11.sto hS13_16 (by omega)
          replace hr71 := hr71.sto hS13_16 (by omega)
          replace hBo := hS13_16.blk
          replace hBo := iset (i := A.ends[y.toNat][k].1.toNat) (by omega) hBo
          refine PW_nil ?_
          refine thenE_n ?_
          refine W_region ?_
          refine WL_q rfl (ev_move rfl) ?_
          refine WL_q rfl (ev_fieldAddr fo104_0 rfl) ?_
          refine WL_q rfl (ev_load one3 rfl (hB11.cell rfl)) ?_
          refine WL_m rfl (ev_lit1 Try.underlying23 el3 (by decide) (by decide) rfl rfl) ?_
          rintro _ w81 ⟨rfl, hN81⟩
          have hz81 := hN81.size
          replace hE := hE.trans hN81.ext
          replace hRL0 := hRL0.trans hN81.ext
          replace hRL2 := hRL2.trans hN81.ext
          replace hA := hA.ext hN81.ext
          replace hB := hB.ext hN81.ext
          replace hB3 := hB3.ext hN81.ext
          replace hB4 := hB4.ext hN81.ext
          replace hB12 := hB12.ext hN81.ext
          replace hr32 := hr32.ext hN81.ext
          replace hr41 := hr41.ext hN81.ext
          replace hr48 := hr48.ext hN81.ext
          replace hBo := hBo.ext hN81.ext
          replace hOq := hOq.ext hN81.ext
          replace hB11 := hB11.ext hN81.ext
          replace hr71 := hr71.ext hN81.ext
          have hB81 := hN81.blk
          refine WL_m rfl (ev_appendQ Try.underlying23 el3 rfl (by decide) rfl rfl hOq (SAt.of_blk (cs := [_]) (ds := []) hB81) rfl (by simp [Value.oneCell']) (by decide) (by omega) (by unfold maxLen; omega) (by omega)) ?_
          rintro _ w82 ⟨a82, c82, rfl, hO82, hK82, hQ82⟩
          have hz82 := hK82.size
          replace hE := hE.rg hK82 (by omega)
          replace hRL0 := hRL0.rg hK82 (by omega)
          replace hRL2 := hRL2.rg hK82 (by omega)
          replace hA := hA.rg hK82 (by omega)
          replace hB := hB.rg hK82 (by omega)
          replace hB3 := hB3.rg hK82 (by omega)
          replace hB4 := hB4.rg hK82 (by omega)
          replace hB12 := hB12.rg hK82 (by omega)
          replace hr32 := hr32.rg hK82 (by omega)
          replace hr41 := hr41.rg hK82 (by omega)
          replace hr48 := hr48.rg hK82 (by omega)
          replace hBo := hBo.rg hK82 (by omega)
          replace hB11 := hB11.rg hK82 (by omega)
          replace hr71 := hr71.rg hK82 (by omega)
          replace hB81 := hB81.rg hK82 (by omega)
          replace hOq := hO82
          replace hOq := ownq_snocI hOq
          refine WL_q rfl (ev_assign rfl) ?_
          refine WL_nil ?_
          refine blockE_n ?_
          refine thenE_n ?_
          refine W_region ?_
          refine WL_q rfl (ev_add rfl rfl (by omega)) ?_
          refine WL_q rfl (ev_move rfl) ?_
          refine WL_nil ?_
          refine thenE_n ?_
          have hng : (bfsK A.ends 0 i y k).1[(A.ends[y.toNat][k].1).toNat] < 0 := by have hc9 := hXR.coh _ he2; rw [getD_eq (by omega), getD_eq (by omega)] at hc9; omega
          have hsK := bfsK_new hk h00 h01 hil hyx hkl (near_at hy2 hlk hkl) (h2 := by omega) (h3 := by omega) hng
          rw [extR_new hlk hlkb (h2 := by omega) hp61] at hBo
          exact ⟨(k + 1, a82, c82), (Subs.c rfl (Subs.c rfl (Subs.c rfl (Subs.c rfl (Subs.c rfl (Subs.c rfl Subs.n)))))), (Subs.c (lkS rfl (by rw [hsK]; simp; omega)) (Subs.c (lkI rfl (by omega)) Subs.n)), ⟨hRL2, ⟨by omega, hBo, (ownq_to hOq (by rw [hsK]; exact drop_snoc hpl) (by rw [hsK]; simp; omega)).up (Nat.le_refl _) (by omega)⟩⟩, by first | omega | (dsimp only; omega)⟩
        · have hp61 := of_decide_eq_false hg61
          refine W_skip ?_
          refine blockE_n ?_
          refine thenE_n ?_
          refine W_region ?_
          refine WL_q rfl (ev_add rfl rfl (by omega)) ?_
          refine WL_q rfl (ev_move rfl) ?_
          refine WL_nil ?_
          refine thenE_n ?_
          have hng : ¬ (bfsK A.ends 0 i y k).1[(A.ends[y.toNat][k].1).toNat] < 0 := by have hc9 := hXR.coh _ he2; rw [getD_eq (by omega), getD_eq (by omega)] at hc9; omega
          have hsK := bfsK_old (v := 0) (i := i) hkl (near_at hy2 hlk hkl) (h2 := by omega) hng
          rw [extR_old hlk (h2 := by omega) hp61] at hBo
          exact ⟨(k + 1, a2, c2), (Subs.c rfl (Subs.c rfl (Subs.c rfl (Subs.c rfl (Subs.c rfl (Subs.c rfl Subs.n)))))), (Subs.c (lkS rfl (by rw [hsK])) (Subs.c (lkI rfl (by omega)) Subs.n)), ⟨hRL2, ⟨by omega, hBo, by rw [hsK]; exact hOq.up (Nat.le_refl _) (by omega)⟩⟩, by first | omega | (dsimp only; omega)⟩
      · have hp52 := of_decide_eq_false hg52
        refine W_exit ?_
        refine thenE_x ?_
        refine thenE_x ?_
        refine blockE_hit ?_
        refine blockE_n ?_
        refine thenE_n ?_
        have hfull := bfsK_full (k := k) (by rw [near_len hy2]; omega) hil hyx
        rw [hfull] at hOq
        have hk9 : k = A.ends[y.toNat].length := by omega
        subst hk9
        rw [← extN_succ hlj hye hy2 (hm := hy3) (hb := hy5)] at hBo
        have hext := (extAt_iff hlj hye hy2 hy3 hy5).2 hlen
        have hI1 := bfsN_inv hk h00 h01 (i + 1)
        exact ⟨(i + 1, a2, c2), (Subs.c rfl (Subs.c rfl (Subs.c rfl Subs.n))), (Subs.c (lkS rfl (by rw [hfull])) Subs.n), ⟨hRL0, ⟨by obtain ⟨r, hr⟩ := bfsK_pre (ends := A.ends) (v := 0) (x := y) (i := i) (k := A.ends[y.toNat].length); rw [hfull] at hr; rw [hr]; simp; omega, fun s hs => by
  by_cases e : s = i
  · subst e; exact hext
  · exact hJ s (by omega), hBo, hOq.up (Nat.le_refl _) (by omega)⟩⟩, by first | omega | (dsimp only; omega)⟩
  · have hp23 := of_decide_eq_false hg23
    refine W_exit ?_
    refine thenE_x ?_
    refine thenE_x ?_
    refine blockE_hit ?_
    refine thenE_n ?_
    refine W_seq ?_
    refine W_seq ?_
    refine W_region ?_
    refine WL_q rfl (ev_loads st31 sz31 rfl (cellsB hB3) rfl) ?_
    refine WL_q rfl (ev_loads st31 sz31 rfl (cellsB hB4) rfl) ?_
    refine WL_q rfl (ev_move rfl) ?_
    have he9 := reachL_done (ends := A.ends) (k := i) (drop_zero_of hp23) (by omega)
    have hrl9 : (reachL A.ends).length ≤ i := by rw [← he9]; exact drop_zero_of hp23
    have hj9 := extN_stop (A := A.ends) (B := B.ends) (w := x) (k := i) hrl9
    rw [hj9] at hBo hXl
    have hBo9 := hBo
    have hall : ExtAll A.ends B.ends x := fun s hs => hJ s (by omega)
    refine WL_m rfl (ev_call rfl (isPortMap_len nA nB A B _ _ (extM A.ends B.ends x) _ hXl hA hB (Blk.ints (c := A.ends.length) hBo9 (by omega)) (by omega) (by omega) (by omega) (by omega) (by omega) (by omega) hkA hkB)) ?_
    rintro _ w87 ⟨b87, rfl, hb87, hE87⟩
    have hz87 := hE87.size
    replace hE := hE.trans hE87
    replace hA := hA.ext hE87
    replace hB := hB.ext hE87
    replace hB3 := hB3.ext hE87
    replace hB4 := hB4.ext hE87
    replace hB12 := hB12.ext hE87
    replace hBo := hBo.ext hE87
    replace hOq := hOq.ext hE87
    refine WL_q rfl (ev_not rfl) ?_
    refine WL_nil ?_
    refine thenE_n ?_
    refine W_cond rfl (fun hg88 => ?_) (fun hg88 => ?_)
    · have hg87 := not_true hg88
      have hp87 := ttN hb87 hg87
      refine W_seq ?_
      refine W_region ?_
      refine WL_q rfl (ev_assign rfl) ?_
      refine WL_nil ?_
      refine thenE_n ?_
      refine W_ret ?_
      refine thenE_r ?_
      refine ret1 rfl rfl ?_
      first | (have hn9 : ¬ EV A B x := fun h => hp44 (congrArg (fun n : Nat => (n : Int)) ((extAt_iff hlj hye hy2 hy3 hy5).1 (h.1 i hlj))); exact ⟨none, 0, [], rfl, ⟨fun h => (by cases h), fun h => absurd h hn9⟩, fun h => absurd h hn9, fun _ => rfl, Own.nil _ _ _ _, hE⟩) | (exact ⟨_, _, extM A.ends B.ends x, by rw [hXl], ⟨fun _ => ⟨hall, hp87⟩, fun _ => rfl⟩, fun _ => rfl, fun h => absurd ⟨hall, hp87⟩ h, by rw [hXl]; exact own_of_blk hBo (by omega) (by simp; omega) (by omega), hE⟩) | (have hn9 : ¬ EV A B x := fun h => hp87 h.2; exact ⟨none, 0, [], rfl, ⟨fun h => (by cases h), fun h => absurd h hn9⟩, fun h => absurd h hn9, fun _ => rfl, Own.nil _ _ _ _, hE⟩)
    · have hg87 := not_false hg88
      have hp87 := hb87.1 hg87
      refine W_skip ?_
      refine thenE_n ?_
      refine W_seq ?_
      refine W_region ?_
      refine WL_q rfl (ev_move rfl) ?_
      refine WL_q rfl (ev_assign rfl) ?_
      refine WL_nil ?_
      refine thenE_n ?_
      refine W_ret ?_
      refine ret1 rfl rfl ?_
      first | (have hn9 : ¬ EV A B x := fun h => hp44 (congrArg (fun n : Nat => (n : Int)) ((extAt_iff hlj hye hy2 hy3 hy5).1 (h.1 i hlj))); exact ⟨none, 0, [], rfl, ⟨fun h => (by cases h), fun h => absurd h hn9⟩, fun h => absurd h hn9, fun _ => rfl, Own.nil _ _ _ _, hE⟩) | (exact ⟨_, _, extM A.ends B.ends x, by rw [hXl], ⟨fun _ => ⟨hall, hp87⟩, fun _ => rfl⟩, fun _ => rfl, fun h => absurd ⟨hall, hp87⟩ h, by rw [hXl]; exact own_of_blk hBo (by omega) (by simp; omega) (by omega), hE⟩) | (have hn9 : ¬ EV A B x := fun h => hp87 h.2; exact ⟨none, 0, [], rfl, ⟨fun h => (by cases h), fun h => absurd h hn9⟩, fun h => absurd h hn9, fun _ => rfl, Own.nil _ _ _ _, hE⟩)

theorem ext_rv {A B : Net} {x : Int} {a : Option Addr} {ys : List Int} {P : Prop} (hP : P) (hs : a.isNone = false ↔ EV A B x) (hy : EV A B x → ys = extM A.ends B.ends x) (hn : ¬ EV A B x → ys = []) : RV [] (opt (P ∧ EV A B x) (extM A.ends B.ends x)) ys (!a.isNone) := by
  by_cases e : EV A B x
  · rw [hs.2 e]; exact .yes ⟨hP, e⟩ (hy e)
  · have h1 : a.isNone = true := by
      cases h : a.isNone
      · exact absurd (hs.1 h) e
      · rfl
    rw [h1, hn e]; exact .no fun h => e h.2
theorem ext_rv' {A B : Net} {x : Int} {q : Bool} {P : Prop} (hP : P) (hq : q = true ↔ EV A B x) (ht : q = true) : RV [] (opt (P ∧ EV A B x) (extM A.ends B.ends x)) (extM A.ends B.ends x) true := .yes ⟨hP, hq.1 ht⟩ rfl
theorem ext_le {A B : Net} {x : Int} {ys : List Int} (hA : NOk A) (hB : NOk B) (hx : 0 ≤ x ∧ x.toNat < B.ends.length) (hy : EV A B x → ys = extM A.ends B.ends x) (hn : ¬ EV A B x → ys = []) : ys.length ≤ 1048576 := by
  by_cases e : EV A B x
  · rw [hy e]
    have h0 := hA.nodes
    have := (extN_inv hA.endsOk hB.endsOk (by omega) hx _ (Nat.le_refl _) (fun j hj => e.1 j hj)).len
    unfold extM; omega
  · rw [hn e]; simp
theorem extM_len {A B : Net} {x : Int} (hA : NOk A) (hB : NOk B) (hx : 0 ≤ x ∧ x.toNat < B.ends.length) (h : EV A B x) : (extM A.ends B.ends x).length = A.ends.length := by
  have h0 : 0 < A.ends.length := by have := hA.nodes; omega
  exact (extN_inv hA.endsOk hB.endsOk h0 hx _ (Nat.le_refl _) (fun j hj => h.1 j hj)).len

set_option maxRecDepth 100000 in
theorem ExtendMap_spec {loA hiA : Nat} (nA : NA) (A : Net) {loB hiB : Nat} (nB : NA) (B : Net) (x : Int) (w : World) (hA : IsNet loA hiA w nA A) (hhiA : hiA ≤ w.heap.size) (hnA : totN A ≤ 1048576) (hB : IsNet loB hiB w nB B) (hhiB : hiB ≤ w.heap.size) (hnB : totN B ≤ 1048576) :
    Fn Try.prog 21 #[netV nA A, netV nB B, VI x] w (fun o9 w' => ∃ a' c' ys q, o9 = .tuple #[.slice a' ys.length c', VB q] ∧ RV [] (opt (((NOk A ∧ NN B x) ∧ Conn A) ∧ EV A B x) (extM A.ends B.ends x)) ys q ∧ OwnH w.heap.size w'.heap.size 0 0 w' 3 1 a' ys.length c' (ys.map VI) ∧ ys.length ≤ 1048576 ∧ Ext w w') := by
  have hqA := totL_len A.ends
  have hmA : totL A.ends + A.ids.length + A.inputs.length ≤ 1048576 := hnA
  have hqB := totL_len B.ends
  have hmB : totL B.ends + B.ids.length + B.inputs.length ≤ 1048576 := hnB
  have hE := Ext.refl w
  refine Fn_of Try.func21 rfl rfl (by kernel_rfl) rfl ?_
  refine W_seq ?_
  refine W_region ?_
  refine WL_m rfl (ev_box rfl) ?_
  rintro _ w3 ⟨rfl, hN3⟩
  have hz3 := hN3.size
  replace hE := hE.trans hN3.ext
  replace hA := hA.ext hN3.ext
  replace hB := hB.ext hN3.ext
  have hB3 : Blk w3 _ _ [_, _, _] := hN3.blk
  refine WL_m rfl (ev_box rfl) ?_
  rintro _ w4 ⟨rfl, hN4⟩
  have hz4 := hN4.size
  replace hE := hE.trans hN4.ext
  replace hA := hA.ext hN4.ext
  replace hB := hB.ext hN4.ext
  replace hB3 := hB3.ext hN4.ext
  have hB4 : Blk w4 _ _ [_, _, _] := hN4.blk
  refine WL_q rfl (ev_assign rfl) ?_
  refine WL_q rfl (ev_assign rfl) ?_
  refine WL_nil ?_
  refine thenE_n ?_
  refine W_seq ?_
  refine W_seq ?_
  refine W_region ?_
  refine WL_q rfl (ev_loads st31 sz31 rfl (cellsB hB3) rfl) ?_
  refine WL_q rfl (ev_loads st31 sz31 rfl (cellsB hB4) rfl) ?_
  refine WL_q rfl (ev_move rfl) ?_
  refine WL_m rfl (ev_call rfl (nodesOk_spec _ A _ _ B _ _ hA (by omega) (by omega) hB (by omega) (by omega))) ?_
  rintro _ w12 ⟨b12, rfl, hb12, hE12⟩
  have hz12 := hE12.size
  replace hE := hE.trans hE12
  replace hA := hA.ext hE12
  replace hB := hB.ext hE12
  replace hB3 := hB3.ext hE12
  replace hB4 := hB4.ext hE12
  refine WL_q rfl (ev_not rfl) ?_
  refine WL_q rfl (ev_move rfl) ?_
  refine WL_splitv (t := 14) rfl (fun hg13 => ?_) (fun hg13 => ?_)
  · have hg12 := not_true hg13
    have hp12 := ttN hb12 hg12
    refine WL_no rfl rfl hg13 rfl ?_
    refine WL_no rfl rfl hg13 rfl ?_
    refine WL_no rfl rfl hg13 rfl ?_
    refine WL_q rfl (ev_pick_t rfl hg13 rfl) ?_
    refine WL_nil ?_
    refine thenE_n ?_
    refine W_cond_t rfl ?_
    refine W_seq ?_
    refine W_region ?_
    refine WL_q rfl (ev_assign rfl) ?_
    refine WL_q rfl (ev_assign rfl) ?_
    refine WL_nil ?_
    refine thenE_n ?_
    refine W_ret ?_
    refine thenE_r ?_
    refine ret2 rfl rfl rfl ?_
    first | (exact ⟨none, 0, [], _, rfl, .no (fun h => hp12 ⟨⟨h.1.1.1, h.1.1.2.1⟩, ⟨by omega, by have := h.1.1.1.nodes; have e : (0 : Int).toNat = 0 := rfl; omega⟩, h.1.1.2.2⟩), OwnH.nil, by simp, hE⟩) | (exact ⟨none, 0, [], _, rfl, .no (fun h => hp16 h.1.2), OwnH.nil, by simp, hE⟩) | (exact ⟨a22, c22, y22, _, rfl, ext_rv ⟨⟨hkA, hkB, hx1, hx2⟩, hp16⟩ hs22 hy22 hn22, hO22.h.up (by omega) (Nat.le_refl _), ext_le hkA hkB ⟨hx1, hx2⟩ hy22 hn22, hE⟩)
  · have hg12 := not_false hg13
    have hp12 := hb12.1 hg12
    refine WL_qg rfl rfl hg13 rfl (ev_loads st31 sz31 rfl (cellsB hB3) rfl) ?_
    have hkA := hp12.1.1
    have hk := hkA.endsOk
    have hnd := hkA.nodes
    refine WL_mg rfl rfl hg13 rfl (ev_call rfl (isConnected_spec _ A _ hA (by omega) (by omega) (by assumption) (by omega))) ?_
    rintro _ w16 ⟨b16, rfl, hb16, hE16⟩
    have hz16 := hE16.size
    replace hE := hE.trans hE16
    replace hA := hA.ext hE16
    replace hB := hB.ext hE16
    replace hB3 := hB3.ext hE16
    replace hB4 := hB4.ext hE16
    refine WL_qg rfl rfl hg13 rfl (ev_not rfl) ?_
    refine WL_q rfl (ev_pick_f rfl hg13 rfl) ?_
    refine WL_nil ?_
    refine thenE_n ?_
    refine W_cond rfl (fun hg17 => ?_) (fun hg17 => ?_)
    · have hg16 := not_true hg17
      have hp16 := ttN hb16 hg16
      refine W_seq ?_
      refine W_region ?_
      refine WL_q rfl (ev_assign rfl) ?_
      refine WL_q rfl (ev_assign rfl) ?_
      refine WL_nil ?_
      refine thenE_n ?_
      refine W_ret ?_
      refine thenE_r ?_
      refine ret2 rfl rfl rfl ?_
      first | (exact ⟨none, 0, [], _, rfl, .no (fun h => hp12 ⟨⟨h.1.1.1, h.1.1.2.1⟩, ⟨by omega, by have := h.1.1.1.nodes; have e : (0 : Int).toNat = 0 := rfl; omega⟩, h.1.1.2.2⟩), OwnH.nil, by simp, hE⟩) | (exact ⟨none, 0, [], _, rfl, .no (fun h => hp16 h.1.2), OwnH.nil, by simp, hE⟩) | (exact ⟨a22, c22, y22, _, rfl, ext_rv ⟨⟨hkA, hkB, hx1, hx2⟩, hp16⟩ hs22 hy22 hn22, hO22.h.up (by omega) (Nat.le_refl _), ext_le hkA hkB ⟨hx1, hx2⟩ hy22 hn22, hE⟩)
    · have hg16 := not_false hg17
      have hp16 := hb16.1 hg16
      refine W_skip ?_
      refine thenE_n ?_
      refine W_seq ?_
      refine W_region ?_
      refine WL_q rfl (ev_loads st31 sz31 rfl (cellsB hB3) rfl) ?_
      refine WL_q rfl (ev_loads st31 sz31 rfl (cellsB hB4) rfl) ?_
      refine WL_q rfl (ev_move rfl) ?_
      have hkB := hp12.1.2
      have hx1 := hp12.2.2.1
      have hx2 := hp12.2.2.2
      have hndB := hkB.nodes
      refine WL_m rfl (ev_call rfl (extendMap_spec _ A _ B _ _ hA (by omega) (by omega) hB (by omega) (by omega) (by assumption) (by assumption) (by omega))) ?_
      rintro _ w22 ⟨a22, c22, y22, rfl, hs22, hy22, hn22, hO22, hE22⟩
      have hz22 := hE22.size
      replace hE := hE.trans hE22
      replace hA := hA.ext hE22
      replace hB := hB.ext hE22
      replace hB3 := hB3.ext hE22
      replace hB4 := hB4.ext hE22
      refine WL_q rfl (ev_assign rfl) ?_
      refine WL_nil ?_
      refine thenE_n ?_
      refine W_seq ?_
      refine W_region ?_
      refine WL_q rfl (ev_move rfl) ?_
      refine WL_q rfl (ev_move rfl) ?_
      refine WL_q rfl (ev_neq_nil Try.underlying23 rfl rfl) ?_
      refine WL_q rfl (ev_assign rfl) ?_
      refine WL_q rfl (ev_assign rfl) ?_
      refine WL_nil ?_
      refine thenE_n ?_
      refine W_ret ?_
      refine ret2 rfl rfl rfl ?_
      first | (exact ⟨none, 0, [], _, rfl, .no (fun h => hp12 ⟨⟨h.1.1.1, h.1.1.2.1⟩, ⟨by omega, by have := h.1.1.1.nodes; have e : (0 : Int).toNat = 0 := rfl; omega⟩, h.1.1.2.2⟩), OwnH.nil, by simp, hE⟩) | (exact ⟨none, 0, [], _, rfl, .no (fun h => hp16 h.1.2), OwnH.nil, by simp, hE⟩) | (exact ⟨a22, c22, y22, _, rfl, ext_rv ⟨⟨hkA, hkB, hx1, hx2⟩, hp16⟩ hs22 hy22 hn22, hO22.h.up (by omega) (Nat.le_refl _), ext_le hkA hkB ⟨hx1, hx2⟩ hy22 hn22, hE⟩)

set_option maxRecDepth 100000 in
theorem sExtendMap_spec {loA hiA : Nat} (nA : NA) (A : Net) {loB hiB : Nat} (nB : NA) (B : Net) (x : Int) (w : World) (hA : IsNet loA hiA w nA A) (hhiA : hiA ≤ w.heap.size) (hnA : totN A ≤ 1048576) (hB : IsNet loB hiB w nB B) (hhiB : hiB ≤ w.heap.size) (hnB : totN B ≤ 1048576) :
    Fn Try.prog 20 #[netV nA A, netV nB B, VI x] w (fun o9 w' => ∃ a' c' ys q, o9 = .tuple #[.slice a' ys.length c', VB q] ∧ RV [] (opt (((NOk A ∧ NN B x) ∧ Conn A) ∧ EV A B x) (extM A.ends B.ends x)) ys q ∧ Ints 0 w'.heap.size w' a' c' ys ∧ ys.length ≤ 1048576 ∧ Ext w w') := by
  have hqA := totL_len A.ends
  have hmA : totL A.ends + A.ids.length + A.inputs.length ≤ 1048576 := hnA
  have hqB := totL_len B.ends
  have hmB : totL B.ends + B.ids.length + B.inputs.length ≤ 1048576 := hnB
  have hE := Ext.refl w
  refine Fn_of Try.func20 rfl rfl (by kernel_rfl) rfl ?_
  refine W_seq ?_
  refine W_region ?_
  refine WL_m rfl (ev_box rfl) ?_
  rintro _ w3 ⟨rfl, hN3⟩
  have hz3 := hN3.size
  replace hE := hE.trans hN3.ext
  replace hA := hA.ext hN3.ext
  replace hB := hB.ext hN3.ext
  have hB3 : Blk w3 _ _ [_, _, _] := hN3.blk
  refine WL_m rfl (ev_box rfl) ?_
  rintro _ w4 ⟨rfl, hN4⟩
  have hz4 := hN4.size
  replace hE := hE.trans hN4.ext
  replace hA := hA.ext hN4.ext
  replace hB := hB.ext hN4.ext
  replace hB3 := hB3.ext hN4.ext
  have hB4 : Blk w4 _ _ [_, _, _] := hN4.blk
  refine WL_q rfl (ev_assign rfl) ?_
  refine WL_q rfl (ev_assign rfl) ?_
  refine WL_nil ?_
  refine thenE_n ?_
  refine W_seq ?_
  refine W_seq ?_
  refine W_region ?_
  refine WL_q rfl (ev_loads st31 sz31 rfl (cellsB hB3) rfl) ?_
  refine WL_m rfl (ev_call rfl (neGood_spec _ A _ hA (by omega) (by omega))) ?_
  rintro _ w11 ⟨b11, rfl, hb11, hE11⟩
  have hz11 := hE11.size
  replace hE := hE.trans hE11
  replace hA := hA.ext hE11
  replace hB := hB.ext hE11
  replace hB3 := hB3.ext hE11
  replace hB4 := hB4.ext hE11
  refine WL_q rfl (ev_not rfl) ?_
  refine WL_q rfl (ev_move rfl) ?_
  refine WL_splitv (t := 13) rfl (fun hg12 => ?_) (fun hg12 => ?_)
  · have hg11 := not_true hg12
    have hp11 := ttN hb11 hg11
    refine WL_no rfl rfl hg12 rfl ?_
    refine WL_no rfl rfl hg12 rfl ?_
    refine WL_no rfl rfl hg12 rfl ?_
    refine WL_no rfl rfl hg12 rfl ?_
    refine WL_q rfl (ev_pick_t rfl hg12 rfl) ?_
    refine WL_q rfl (ev_move rfl) ?_
    refine WL_no rfl rfl rfl rfl ?_
    refine WL_no rfl rfl rfl rfl ?_
    refine WL_no rfl rfl rfl rfl ?_
    refine WL_q rfl (ev_pick_t rfl rfl rfl) ?_
    refine WL_nil ?_
    refine thenE_n ?_
    refine W_cond_t rfl ?_
    refine W_seq ?_
    refine W_region ?_
    refine WL_q rfl (ev_assign rfl) ?_
    refine WL_q rfl (ev_assign rfl) ?_
    refine WL_nil ?_
    refine thenE_n ?_
    refine W_ret ?_
    refine thenE_r ?_
    refine ret2 rfl rfl rfl ?_
    first | (exact ⟨none, 0, [], _, rfl, .no (fun h => hp11 h.1.1.1), Ints.nil, by simp, hE⟩) | (exact ⟨none, 0, [], _, rfl, .no (fun h => hp16 h.1.1.2), Ints.nil, by simp, hE⟩) | (exact ⟨none, 0, [], _, rfl, .no (fun h => hp21 h.1.2), Ints.nil, by simp, hE⟩) | (exact ⟨none, 0, [], _, rfl, .no (fun h => (by have h9 := hq28.2 h.2; rw [h9] at hg30; cases hg30)), Ints.nil, by simp, hE⟩) | (exact ⟨a28, c28, y28, _, rfl, .yes ⟨⟨⟨hp11, hp16⟩, hp21⟩, hq28.1 hg30⟩ (hy28 (hq28.1 hg30)), (own_i hO28).mono (Nat.zero_le _) (Nat.le_refl _), hl28, hE⟩)
  · have hg11 := not_false hg12
    have hp11 := hb11.1 hg11
    refine WL_qg rfl rfl hg12 rfl (ev_loads st31 sz31 rfl (cellsB hB4) rfl) ?_
    refine WL_qg rfl rfl hg12 rfl (ev_move rfl) ?_
    refine WL_mg rfl rfl hg12 rfl (ev_call rfl (neNode_spec _ B _ _ hB (by omega) (by omega))) ?_
    rintro _ w16 ⟨b16, rfl, hb16, hE16⟩
    have hz16 := hE16.size
    replace hE := hE.trans hE16
    replace hA := hA.ext hE16
    replace hB := hB.ext hE16
    replace hB3 := hB3.ext hE16
    replace hB4 := hB4.ext hE16
    refine WL_qg rfl rfl hg12 rfl (ev_not rfl) ?_
    refine WL_q rfl (ev_pick_f rfl hg12 rfl) ?_
    refine WL_q rfl (ev_move rfl) ?_
    refine WL_splitv (t := 19) rfl (fun hg17 => ?_) (fun hg17 => ?_)
    · have hg16 := not_true hg17
      have hp16 := ttN hb16 hg16
      refine WL_no rfl rfl hg17 rfl ?_
      refine WL_no rfl rfl hg17 rfl ?_
      refine WL_no rfl rfl hg17 rfl ?_
      refine WL_q rfl (ev_pick_t rfl hg17 rfl) ?_
      refine WL_nil ?_
      refine thenE_n ?_
      refine W_cond_t rfl ?_
      refine W_seq ?_
      refine W_region ?_
      refine WL_q rfl (ev_assign rfl) ?_
      refine WL_q rfl (ev_assign rfl) ?_
      refine WL_nil ?_
      refine thenE_n ?_
      refine W_ret ?_
      refine thenE_r ?_
      refine ret2 rfl rfl rfl ?_
      first | (exact ⟨none, 0, [], _, rfl, .no (fun h => hp11 h.1.1.1), Ints.nil, by simp, hE⟩) | (exact ⟨none, 0, [], _, rfl, .no (fun h => hp16 h.1.1.2), Ints.nil, by simp, hE⟩) | (exact ⟨none, 0, [], _, rfl, .no (fun h => hp21 h.1.2), Ints.nil, by simp, hE⟩) | (exact ⟨none, 0, [], _, rfl, .no (fun h => (by have h9 := hq28.2 h.2; rw [h9] at hg30; cases hg30)), Ints.nil, by simp, hE⟩) | (exact ⟨a28, c28, y28, _, rfl, .yes ⟨⟨⟨hp11, hp16⟩, hp21⟩, hq28.1 hg30⟩ (hy28 (hq28.1 hg30)), (own_i hO28).mono (Nat.zero_le _) (Nat.le_refl _), hl28, hE⟩)
    · have hg16 := not_false hg17
      have hp16 := hb16.1 hg16
      refine WL_qg rfl rfl hg17 rfl (ev_loads st31 sz31 rfl (cellsB hB3) rfl) ?_
      have hk := hp11.endsOk
      have hnd := hp11.nodes
      refine WL_mg rfl rfl hg17 rfl (ev_call rfl (coConnected_spec _ A _ hA (by omega) (by omega) (by assumption) (by omega))) ?_
      rintro _ w21 ⟨b21, rfl, hb21, hE21⟩
      have hz21 := hE21.size
      replace hE := hE.trans hE21
      replace hA := hA.ext hE21
      replace hB := hB.ext hE21
      replace hB3 := hB3.ext hE21
      replace hB4 := hB4.ext hE21
      refine WL_qg rfl rfl hg17 rfl (ev_not rfl) ?_
      refine WL_q rfl (ev_pick_f rfl hg17 rfl) ?_
      refine WL_nil ?_
      refine thenE_n ?_
      refine W_cond rfl (fun hg22 => ?_) (fun hg22 => ?_)
      · have hg21 := not_true hg22
        have hp21 := ttN hb21 hg21
        refine W_seq ?_
        refine W_region ?_
        refine WL_q rfl (ev_assign rfl) ?_
        refine WL_q rfl (ev_assign rfl) ?_
        refine WL_nil ?_
        refine thenE_n ?_
        refine W_ret ?_
        refine thenE_r ?_
        refine ret2 rfl rfl rfl ?_
        first | (exact ⟨none, 0, [], _, rfl, .no (fun h => hp11 h.1.1.1), Ints.nil, by simp, hE⟩) | (exact ⟨none, 0, [], _, rfl, .no (fun h => hp16 h.1.1.2), Ints.nil, by simp, hE⟩) | (exact ⟨none, 0, [], _, rfl, .no (fun h => hp21 h.1.2), Ints.nil, by simp, hE⟩) | (exact ⟨none, 0, [], _, rfl, .no (fun h => (by have h9 := hq28.2 h.2; rw [h9] at hg30; cases hg30)), Ints.nil, by simp, hE⟩) | (exact ⟨a28, c28, y28, _, rfl, .yes ⟨⟨⟨hp11, hp16⟩, hp21⟩, hq28.1 hg30⟩ (hy28 (hq28.1 hg30)), (own_i hO28).mono (Nat.zero_le _) (Nat.le_refl _), hl28, hE⟩)
      · have hg21 := not_false hg22
        have hp21 := hb21.1 hg21
        refine W_skip ?_
        refine thenE_n ?_
        refine W_seq ?_
        refine W_region ?_
        refine WL_q rfl (ev_loads st31 sz31 rfl (cellsB hB3) rfl) ?_
        refine WL_q rfl (ev_loads st31 sz31 rfl (cellsB hB4) rfl) ?_
        refine WL_q rfl (ev_move rfl) ?_
        have hkB := hp16.1
        have hx1 := hp16.2.1
        have hx2 := hp16.2.2
        have hndB := hkB.nodes
        refine WL_m rfl (ev_call rfl (coExtend_spec _ A _ B _ _ hA (by omega) (by omega) hB (by omega) (by omega) (by assumption) (by assumption) (by omega))) ?_
        rintro _ w28 ⟨a28, c28, y28, q28, rfl, hq28, hy28, hO28, hl28, hE28⟩
        have hz28 := hE28.size
        replace hE := hE.trans hE28
        replace hA := hA.ext hE28
        replace hB := hB.ext hE28
        replace hB3 := hB3.ext hE28
        replace hB4 := hB4.ext hE28
        refine WL_q rfl (ev_move rfl) ?_
        refine WL_q rfl (ev_extract rfl rfl) ?_
        refine WL_q rfl (ev_extract rfl rfl) ?_
        refine WL_q rfl (ev_assign rfl) ?_
        refine WL_q rfl (ev_assign rfl) ?_
        refine WL_nil ?_
        refine thenE_n ?_
        refine W_seq ?_
        refine W_seq ?_
        refine W_region ?_
        refine WL_q rfl (ev_move rfl) ?_
        refine WL_q rfl (ev_not rfl) ?_
        refine WL_nil ?_
        refine thenE_n ?_
        refine W_cond rfl (fun hg32 => ?_) (fun hg32 => ?_)
        · have hg30 := not_true hg32
          refine W_seq ?_
          refine W_region ?_
          refine WL_q rfl (ev_assign rfl) ?_
          refine WL_q rfl (ev_assign rfl) ?_
          refine WL_nil ?_
          refine thenE_n ?_
          refine W_ret ?_
          refine thenE_r ?_
          refine ret2 rfl rfl rfl ?_
          first | (exact ⟨none, 0, [], _, rfl, .no (fun h => hp11 h.1.1.1), Ints.nil, by simp, hE⟩) | (exact ⟨none, 0, [], _, rfl, .no (fun h => hp16 h.1.1.2), Ints.nil, by simp, hE⟩) | (exact ⟨none, 0, [], _, rfl, .no (fun h => hp21 h.1.2), Ints.nil, by simp, hE⟩) | (exact ⟨none, 0, [], _, rfl, .no (fun h => (by have h9 := hq28.2 h.2; rw [h9] at hg30; cases hg30)), Ints.nil, by simp, hE⟩) | (exact ⟨a28, c28, y28, _, rfl, .yes ⟨⟨⟨hp11, hp16⟩, hp21⟩, hq28.1 hg30⟩ (hy28 (hq28.1 hg30)), (own_i hO28).mono (Nat.zero_le _) (Nat.le_refl _), hl28, hE⟩)
        · have hg30 := not_false hg32
          refine W_skip ?_
          refine thenE_n ?_
          refine W_seq ?_
          refine W_region ?_
          refine WL_q rfl (ev_move rfl) ?_
          refine WL_q rfl (ev_assign rfl) ?_
          refine WL_q rfl (ev_assign rfl) ?_
          refine WL_nil ?_
          refine thenE_n ?_
          refine W_ret ?_
          refine ret2 rfl rfl rfl ?_
          first | (exact ⟨none, 0, [], _, rfl, .no (fun h => hp11 h.1.1.1), Ints.nil, by simp, hE⟩) | (exact ⟨none, 0, [], _, rfl, .no (fun h => hp16 h.1.1.2), Ints.nil, by simp, hE⟩) | (exact ⟨none, 0, [], _, rfl, .no (fun h => hp21 h.1.2), Ints.nil, by simp, hE⟩) | (exact ⟨none, 0, [], _, rfl, .no (fun h => (by have h9 := hq28.2 h.2; rw [h9] at hg30; cases hg30)), Ints.nil, by simp, hE⟩) | (exact ⟨a28, c28, y28, _, rfl, .yes ⟨⟨⟨hp11, hp16⟩, hp21⟩, hq28.1 hg30⟩ (hy28 (hq28.1 hg30)), (own_i hO28).mono (Nat.zero_le _) (Nat.le_refl _), hl28, hE⟩)

set_option maxRecDepth 100000 in
theorem law_ExtendMap (nA : NA) (A : Net) (nB : NA) (B : Net) (x : Int) (w : World) (hA : IsNet 0 w.heap.size w nA A) (hsA : SmN A) (hB : IsNet 0 w.heap.size w nB B) (hsB : SmN B) (hix : I64 x) :
    Fn Try.prog 4 #[netV nA A, netV nB B, VI x] w (fun v w' => v = VB true ∧ Ext w w') := by
  have hE := Ext.refl w
  refine Fn_of Try.func4 rfl rfl (by kernel_rfl) rfl ?_
  refine W_seq ?_
  refine W_region ?_
  refine WL_m rfl (ev_box rfl) ?_
  rintro _ w3 ⟨rfl, hN3⟩
  have hz3 := hN3.size
  replace hE := hE.trans hN3.ext
  replace hA := hA.ext hN3.ext
  replace hB := hB.ext hN3.ext
  have hB3 : Blk w3 _ _ [_, _, _] := hN3.blk
  refine WL_m rfl (ev_box rfl) ?_
  rintro _ w4 ⟨rfl, hN4⟩
  have hz4 := hN4.size
  replace hE := hE.trans hN4.ext
  replace hA := hA.ext hN4.ext
  replace hB := hB.ext hN4.ext
  replace hB3 := hB3.ext hN4.ext
  have hB4 : Blk w4 _ _ [_, _, _] := hN4.blk
  refine WL_q rfl (ev_assign rfl) ?_
  refine WL_nil ?_
  refine thenE_n ?_
  refine W_seq ?_
  refine W_region ?_
  refine WL_q rfl (ev_assign rfl) ?_
  refine WL_nil ?_
  refine thenE_n ?_
  refine W_seq ?_
  refine W_region ?_
  refine WL_q rfl (ev_loads st25 sz25 rfl (cellsB hB3) rfl) ?_
  refine WL_q rfl (ev_move rfl) ?_
  refine WL_m rfl (ev_call rfl (szNetwork_spec _ A _ _ hA (by omega) hsA)) ?_
  rintro _ w21 ⟨r21, rfl, hE21, hr21⟩
  have hz21 := hE21.size
  replace hE := hE.trans hE21
  replace hA := hA.ext hE21
  replace hB := hB.ext hE21
  replace hB3 := hB3.ext hE21
  replace hB4 := hB4.ext hE21
  refine WL_q rfl (ev_assign rfl) ?_
  refine WL_nil ?_
  refine thenE_n ?_
  refine W_seq ?_
  refine W_seq ?_
  refine W_region ?_
  refine WL_q rfl (ev_move rfl) ?_
  refine WL_q rfl (ev_lss rfl rfl) ?_
  refine WL_nil ?_
  refine thenE_n ?_
  refine W_cond rfl (fun hg23 => ?_) (fun hg23 => ?_)
  · have hp23 := of_decide_eq_true hg23
    refine W_seq ?_
    refine W_region ?_
    refine WL_q rfl (ev_assign rfl) ?_
    refine WL_nil ?_
    refine thenE_n ?_
    refine W_ret ?_
    refine thenE_r ?_
    refine ret1 rfl rfl ?_
    first | (exact ⟨rfl, hE⟩) | (exact (tfX hg23).elim) | (exact (decF hg23).elim) | (exfalso; omega)
  · have hp23 := of_decide_eq_false hg23
    refine W_skip ?_
    refine thenE_n ?_
    refine W_seq ?_
    refine W_region ?_
    refine WL_q rfl (ev_loads st25 sz25 rfl (cellsB hB4) rfl) ?_
    refine WL_q rfl (ev_move rfl) ?_
    refine WL_m rfl (ev_call rfl (szNetwork_spec _ B _ _ hB (by omega) hsB)) ?_
    rintro _ w26 ⟨r26, rfl, hE26, hr26⟩
    have hz26 := hE26.size
    replace hE := hE.trans hE26
    replace hA := hA.ext hE26
    replace hB := hB.ext hE26
    replace hB3 := hB3.ext hE26
    replace hB4 := hB4.ext hE26
    refine WL_q rfl (ev_assign rfl) ?_
    refine WL_nil ?_
    refine thenE_n ?_
    refine W_seq ?_
    refine W_seq ?_
    refine W_region ?_
    refine WL_q rfl (ev_move rfl) ?_
    refine WL_q rfl (ev_lss rfl rfl) ?_
    refine WL_nil ?_
    refine thenE_n ?_
    refine W_cond rfl (fun hg28 => ?_) (fun hg28 => ?_)
    · have hp28 := of_decide_eq_true hg28
      refine W_seq ?_
      refine W_region ?_
      refine WL_q rfl (ev_assign rfl) ?_
      refine WL_nil ?_
      refine thenE_n ?_
      refine W_ret ?_
      refine thenE_r ?_
      refine ret1 rfl rfl ?_
      first | (exact ⟨rfl, hE⟩) | (exact (tfX hg28).elim) | (exact (decF hg28).elim) | (exfalso; omega)
    · have hp28 := of_decide_eq_false hg28
      refine W_skip ?_
      refine thenE_n ?_
      refine W_seq ?_
      refine W_drawE [(0, true), (2, true), (4, true), (1, false), (3, false), (5, false), (6, true), (7, true), (8, true), (9, true), (10, true)] mixed (by kernel_rfl) rfl (by kernel_rfl) ?_
      intro wd8 hEd8 hzd8
      replace hE := hE.trans hEd8
      replace hA := hA.ext hEd8
      replace hB := hB.ext hEd8
      replace hB3 := hB3.ext hEd8
      replace hB4 := hB4.ext hEd8
      have hDd8 := Ext.refl wd8
      refine PW_q rfl rfl (fun wq hq => ev_loads st25 sz25 rfl (cellsB (hq.blk hB3)) rfl) ?_
      refine PW_q rfl rfl (fun wq hq => ev_loads st25 sz25 rfl (cellsB (hq.blk hB4)) rfl) ?_
      refine PW_q rfl rfl (fun wq hq => ev_move rfl) ?_
      refine PW_m rfl rfl (ev_call rfl (toNetwork_spec _ A _ hA (by omega) (by omega))) ?_
      rintro _ w31 ⟨h31, rfl, hF31, hE31⟩
      have hz31 := hE31.size
      replace hE := hE.trans hE31
      replace hDd8 := hDd8.trans hE31
      have hN31 := hF31.is
      refine ⟨hDd8, ?_⟩
      have hA_3 := hA.ext hDd8
      have hB_3 := hB.ext hDd8
      have hB3_3 := hB3.ext hDd8
      have hB4_3 := hB4.ext hDd8
      refine PW_m rfl rfl (ev_call rfl (toNetwork_spec _ B _ hB_3 (by omega) (by omega))) ?_
      rintro _ w33 ⟨h33, rfl, hF33, hE33⟩
      have hz33 := hE33.size
      replace hE := hE.trans hE33
      replace hDd8 := hDd8.trans hE33
      replace hF31 := hF31.ext hE33
      replace hN31 := hN31.ext hE33
      have hN33 := hF33.is
      refine ⟨hDd8, ?_⟩
      have hA_5 := hA.ext hDd8
      have hB_5 := hB.ext hDd8
      have hB3_5 := hB3.ext hDd8
      have hB4_5 := hB4.ext hDd8
      refine PW_m rfl rfl (ev_call rfl (sExtendMap_spec _ A _ B _ _ hN31 (by omega) (by omega) hN33 (by omega) (by omega))) ?_
      rintro _ w35 ⟨a35, c35, y35, q35, rfl, hr35, hx35, hl35, hE35⟩
      have hz35 := hE35.size
      replace hE := hE.trans hE35
      replace hDd8 := hDd8.trans hE35
      replace hF31 := hF31.ext hE35
      replace hN31 := hN31.ext hE35
      replace hF33 := hF33.ext hE35
      replace hN33 := hN33.ext hE35
      refine ⟨hDd8, ?_⟩
      refine PW_q rfl rfl (fun wq hq => ev_move rfl) ?_
      refine PW_q rfl rfl (fun wq hq => ev_extract rfl rfl) ?_
      refine PW_q rfl rfl (fun wq hq => ev_extract rfl rfl) ?_
      refine PW_q rfl rfl (fun wq hq => ev_assign rfl) ?_
      refine PW_q rfl rfl (fun wq hq => ev_assign rfl) ?_
      replace hA := hA.ext hDd8
      replace hB := hB.ext hDd8
      replace hB3 := hB3.ext hDd8
      replace hB4 := hB4.ext hDd8
      refine PW_nil ?_
      refine thenE_n ?_
      refine W_seq ?_
      refine W_region ?_
      refine WL_q rfl (ev_loads st25 sz25 rfl (cellsB hB3) rfl) ?_
      refine WL_m rfl (ev_call rfl (toNetwork_spec _ A _ hA (by omega) (by omega))) ?_
      rintro _ w39 ⟨h39, rfl, hF39, hE39⟩
      have hz39 := hE39.size
      replace hE := hE.trans hE39
      replace hA := hA.ext hE39
      replace hB := hB.ext hE39
      replace hB3 := hB3.ext hE39
      replace hB4 := hB4.ext hE39
      replace hF31 := hF31.ext hE39
      replace hN31 := hN31.ext hE39
      replace hF33 := hF33.ext hE39
      replace hN33 := hN33.ext hE39
      replace hx35 := hx35.ext hE39
      have hN39 := hF39.is
      refine WL_m rfl (ev_alloc zr31) ?_
      rintro _ w10 ⟨rfl, hN10⟩
      have hz10 := hN10.size
      replace hE := hE.trans hN10.ext
      replace hA := hA.ext hN10.ext
      replace hB := hB.ext hN10.ext
      replace hB3 := hB3.ext hN10.ext
      replace hB4 := hB4.ext hN10.ext
      replace hF31 := hF31.ext hN10.ext
      replace hN31 := hN31.ext hN10.ext
      replace hF33 := hF33.ext hN10.ext
      replace hN33 := hN33.ext hN10.ext
      replace hx35 := hx35.ext hN10.ext
      replace hF39 := hF39.ext hN10.ext
      replace hN39 := hN39.ext hN10.ext
      have hB10 : Blk w10 _ _ [_, _, _] := hN10.blk
      refine WL_s (ev_stores sz31 rfl rfl rfl (by simp [Value.oneCell']) hB10 (by simp)) ?_
      rintro _ w9_3 hS9_3
      have hz9_3 := hS9_3.size
      replace hE := hE.sto hS9_3 (by omega)
      replace hA := hA.sto hS9_3 (by omega)
      replace hB := hB.sto hS9_3 (by omega)
      replace hB3 := hB3.sto hS9_3 (by omega)
      replace hB4 := hB4.sto hS9_3 (by omega)
      replace hF31 := hF31.sto hS9_3 (by omega)
      replace hN31 := hN31.sto hS9_3 (by omega)
      replace hF33 := hF33.sto hS9_3 (by omega)
      replace hN33 := hN33.sto hS9_3 (by omega)
      replace hx35 := hx35.sto hS9_3 (by omega)
      replace hF39 := hF39.sto hS9_3 (by omega)
      replace hN39 := hN39.sto hS9_3 (by omega)
      replace hB10 : Blk w9_3 _ _ [_, _, _] := hS9_3.blk
      refine WL_nil ?_
      refine thenE_n ?_
      refine W_seq ?_
      refine W_region ?_
      refine WL_q rfl (ev_loads st25 sz25 rfl (cellsB hB4) rfl) ?_
      refine WL_m rfl (ev_call rfl (toNetwork_spec _ B _ hB (by omega) (by omega))) ?_
      rintro _ w41 ⟨h41, rfl, hF41, hE41⟩
      have hz41 := hE41.size
      replace hE := hE.trans hE41
      replace hA := hA.ext hE41
      replace hB := hB.ext hE41
      replace hB3 := hB3.ext hE41
      replace hB4 := hB4.ext hE41
      replace hF31 := hF31.ext hE41
      replace hN31 := hN31.ext hE41
      replace hF33 := hF33.ext hE41
      replace hN33 := hN33.ext hE41
      replace hx35 := hx35.ext hE41
      replace hF39 := hF39.ext hE41
      replace hN39 := hN39.ext hE41
      replace hB10 := hB10.ext hE41
      have hN41 := hF41.is
      refine WL_m rfl (ev_alloc zr31) ?_
      rintro _ w11 ⟨rfl, hN11⟩
      have hz11 := hN11.size
      replace hE := hE.trans hN11.ext
      replace hA := hA.ext hN11.ext
      replace hB := hB.ext hN11.ext
      replace hB3 := hB3.ext hN11.ext
      replace hB4 := hB4.ext hN11.ext
      replace hF31 := hF31.ext hN11.ext
      replace hN31 := hN31.ext hN11.ext
      replace hF33 := hF33.ext hN11.ext
      replace hN33 := hN33.ext hN11.ext
      replace hx35 := hx35.ext hN11.ext
      replace hF39 := hF39.ext hN11.ext
      replace hN39 := hN39.ext hN11.ext
      replace hB10 := hB10.ext hN11.ext
      replace hF41 := hF41.ext hN11.ext
      replace hN41 := hN41.ext hN11.ext
      have hB11 : Blk w11 _ _ [_, _, _] := hN11.blk
      refine WL_s (ev_stores sz31 rfl rfl rfl (by simp [Value.oneCell']) hB11 (by simp)) ?_
      rintro _ w10_3 hS10_3
      have hz10_3 := hS10_3.size
      replace hE := hE.sto hS10_3 (by omega)
      replace hA := hA.sto hS10_3 (by omega)
      replace hB := hB.sto hS10_3 (by omega)
      replace hB3 := hB3.sto hS10_3 (by omega)
      replace hB4 := hB4.sto hS10_3 (by omega)
      replace hF31 := hF31.sto hS10_3 (by omega)
      replace hN31 := hN31.sto hS10_3 (by omega)
      replace hF33 := hF33.sto hS10_3 (by omega)
      replace hN33 := hN33.sto hS10_3 (by omega)
      replace hx35 := hx35.sto hS10_3 (by omega)
      replace hF39 := hF39.sto hS10_3 (by omega)
      replace hN39 := hN39.sto hS10_3 (by omega)
      replace hB10 := hB10.sto hS10_3 (by omega)
      replace hF41 := hF41.sto hS10_3 (by omega)
      replace hN41 := hN41.sto hS10_3 (by omega)
      replace hB11 : Blk w10_3 _ _ [_, _, _] := hS10_3.blk
      refine WL_nil ?_
      refine thenE_n ?_
      refine W_seq ?_
      refine W_region ?_
      refine WL_q rfl (ev_loads st31 sz31 rfl (cellsB hB10) rfl) ?_
      refine WL_q rfl (ev_loads st31 sz31 rfl (cellsB hB11) rfl) ?_
      refine WL_q rfl (ev_move rfl) ?_
      refine WL_m rfl (ev_call rfl (ExtendMap_spec _ A _ B _ _ hN39 (by omega) (by omega) hN41 (by omega) (by omega))) ?_
      rintro _ w46 ⟨a46, c46, y46, q46, rfl, hr46, hO46, hl46, hE46⟩
      have hz46 := hE46.size
      replace hE := hE.trans hE46
      replace hA := hA.ext hE46
      replace hB := hB.ext hE46
      replace hB3 := hB3.ext hE46
      replace hB4 := hB4.ext hE46
      replace hF31 := hF31.ext hE46
      replace hN31 := hN31.ext hE46
      replace hF33 := hF33.ext hE46
      replace hN33 := hN33.ext hE46
      replace hx35 := hx35.ext hE46
      replace hF39 := hF39.ext hE46
      replace hN39 := hN39.ext hE46
      replace hB10 := hB10.ext hE46
      replace hF41 := hF41.ext hE46
      replace hN41 := hN41.ext hE46
      replace hB11 := hB11.ext hE46
      refine WL_q rfl (ev_move rfl) ?_
      refine WL_q rfl (ev_extract rfl rfl) ?_
      refine WL_q rfl (ev_extract rfl rfl) ?_
      refine WL_q rfl (ev_assign rfl) ?_
      refine WL_q rfl (ev_assign rfl) ?_
      refine WL_nil ?_
      refine thenE_n ?_
      refine W_seq ?_
      refine W_seq ?_
      refine W_region ?_
      refine WL_q rfl (ev_move rfl) ?_
      refine WL_q rfl (ev_move rfl) ?_
      refine WL_m rfl (ev_call rfl (eqIntS_spec _ _ _ _ y46 y35 _ (ownt_i hO46) hx35 (by omega))) ?_
      rintro _ w51 ⟨rfl, hE51⟩
      have hz51 := hE51.size
      replace hE := hE.trans hE51
      replace hA := hA.ext hE51
      replace hB := hB.ext hE51
      replace hB3 := hB3.ext hE51
      replace hB4 := hB4.ext hE51
      replace hF31 := hF31.ext hE51
      replace hN31 := hN31.ext hE51
      replace hF33 := hF33.ext hE51
      replace hN33 := hN33.ext hE51
      replace hx35 := hx35.ext hE51
      replace hF39 := hF39.ext hE51
      replace hN39 := hN39.ext hE51
      replace hB10 := hB10.ext hE51
      replace hF41 := hF41.ext hE51
      replace hN41 := hN41.ext hE51
      replace hB11 := hB11.ext hE51
      replace hO46 := hO46.ext hE51
      refine WL_q rfl (ev_not rfl) ?_
      refine WL_q rfl (ev_move rfl) ?_
      refine WL_splitv (t := 53) rfl (fun hg52 => ?_) (fun hg52 => ?_)
      · have hg51 := not_true hg52
        refine WL_no rfl rfl hg52 rfl ?_
        refine WL_no rfl rfl hg52 rfl ?_
        refine WL_no rfl rfl hg52 rfl ?_
        refine WL_q rfl (ev_pick_t rfl hg52 rfl) ?_
        refine WL_nil ?_
        refine thenE_n ?_
        refine W_cond_t rfl ?_
        refine W_seq ?_
        refine W_region ?_
        refine WL_q rfl (ev_assign rfl) ?_
        refine WL_nil ?_
        refine thenE_n ?_
        refine W_ret ?_
        refine thenE_r ?_
        refine ret1 rfl rfl ?_
        first | (exact ⟨rfl, hE⟩) | (exact (bneE hg51 (hr46.det1 hr35)).elim) | (exact absurd (hr46.det1 hr35) hp51) | (exact absurd (hr46.det1 hr35) (of_decide_eq_false hg51)) | (exact (bneE hg51 (hr46.det2 hr35)).elim) | (exact absurd (hr46.det2 hr35) hp51) | (exact absurd (hr46.det2 hr35) (of_decide_eq_false hg51)) | (exact (bneE hg51 (hr46.det3 hr35)).elim) | (exact absurd (hr46.det3 hr35) hp51) | (exact absurd (hr46.det3 hr35) (of_decide_eq_false hg51)) | (exact (tfX hg51).elim) | (exact (decF hg51).elim) | (exfalso; omega)
      · have hg51 := not_false hg52
        refine WL_qg rfl rfl hg52 rfl (ev_move rfl) ?_
        refine WL_qg rfl rfl hg52 rfl (ev_move rfl) ?_
        refine WL_qg rfl rfl hg52 rfl (ev_neq_b Try.underlying4 rfl rfl) ?_
        refine WL_q rfl (ev_pick_f rfl hg52 rfl) ?_
        refine WL_nil ?_
        refine thenE_n ?_
        refine W_cond rfl (fun hg56 => ?_) (fun hg56 => ?_)
        · refine W_seq ?_
          refine W_region ?_
          refine WL_q rfl (ev_assign rfl) ?_
          refine WL_nil ?_
          refine thenE_n ?_
          refine W_ret ?_
          refine thenE_r ?_
          refine ret1 rfl rfl ?_
          first | (exact ⟨rfl, hE⟩) | (exact (bneE hg56 (hr46.det1 hr35)).elim) | (exact absurd (hr46.det1 hr35) hp56) | (exact absurd (hr46.det1 hr35) (of_decide_eq_false hg56)) | (exact (bneE hg56 (hr46.det2 hr35)).elim) | (exact absurd (hr46.det2 hr35) hp56) | (exact absurd (hr46.det2 hr35) (of_decide_eq_false hg56)) | (exact (bneE hg56 (hr46.det3 hr35)).elim) | (exact absurd (hr46.det3 hr35) hp56) | (exact absurd (hr46.det3 hr35) (of_decide_eq_false hg56)) | (exact (tfX hg56).elim) | (exact (decF hg56).elim) | (exfalso; omega)
        · refine W_skip ?_
          refine thenE_n ?_
          refine W_seq ?_
          refine W_seq ?_
          refine W_drawE [(0, true), (1, true), (2, false), (3, false), (4, true)] mixed (by kernel_rfl) rfl (by kernel_rfl) ?_
          intro wd14 hEd14 hzd14
          replace hE := hE.trans hEd14
          replace hA := hA.ext hEd14
          replace hB := hB.ext hEd14
          replace hB3 := hB3.ext hEd14
          replace hB4 := hB4.ext hEd14
          replace hF31 := hF31.ext hEd14
          replace hN31 := hN31.ext hEd14
          replace hF33 := hF33.ext hEd14
          replace hN33 := hN33.ext hEd14
          replace hx35 := hx35.ext hEd14
          replace hF39 := hF39.ext hEd14
          replace hN39 := hN39.ext hEd14
          replace hB10 := hB10.ext hEd14
          replace hF41 := hF41.ext hEd14
          replace hN41 := hN41.ext hEd14
          replace hB11 := hB11.ext hEd14
          replace hO46 := hO46.ext hEd14
          have hDd14 := Ext.refl wd14
          refine PW_q rfl rfl (fun wq hq => ev_loads st31 sz31 rfl (cellsB (hq.blk hB10)) rfl) ?_
          refine PW_q rfl rfl (fun wq hq => ev_loads st25 sz25 rfl (cellsB (hq.blk hB3)) rfl) ?_
          refine PW_m rfl rfl (ev_call rfl (toNetwork_spec _ A _ hA (by omega) (by omega))) ?_
          rintro _ w60 ⟨h60, rfl, hF60, hE60⟩
          have hz60 := hE60.size
          replace hE := hE.trans hE60
          replace hDd14 := hDd14.trans hE60
          have hN60 := hF60.is
          refine ⟨hDd14, ?_⟩
          have hA_3 := hA.ext hDd14
          have hB_3 := hB.ext hDd14
          have hB3_3 := hB3.ext hDd14
          have hB4_3 := hB4.ext hDd14
          have hF31_3 := hF31.ext hDd14
          have hN31_3 := hN31.ext hDd14
          have hF33_3 := hF33.ext hDd14
          have hN33_3 := hN33.ext hDd14
          have hx35_3 := hx35.ext hDd14
          have hF39_3 := hF39.ext hDd14
          have hN39_3 := hN39.ext hDd14
          have hB10_3 := hB10.ext hDd14
          have hF41_3 := hF41.ext hDd14
          have hN41_3 := hN41.ext hDd14
          have hB11_3 := hB11.ext hDd14
          have hO46_3 := hO46.ext hDd14
          refine PW_m rfl rfl (ev_call rfl (eqNetwork_spec _ _ A _ hN39_3 hN60 (by omega))) ?_
          rintro _ w61 ⟨rfl, hE61⟩
          have hz61 := hE61.size
          replace hE := hE.trans hE61
          replace hDd14 := hDd14.trans hE61
          replace hF60 := hF60.ext hE61
          replace hN60 := hN60.ext hE61
          refine ⟨hDd14, ?_⟩
          refine PW_q rfl rfl (fun wq hq => ev_not rfl) ?_
          replace hA := hA.ext hDd14
          replace hB := hB.ext hDd14
          replace hB3 := hB3.ext hDd14
          replace hB4 := hB4.ext hDd14
          replace hF31 := hF31.ext hDd14
          replace hN31 := hN31.ext hDd14
          replace hF33 := hF33.ext hDd14
          replace hN33 := hN33.ext hDd14
          replace hx35 := hx35.ext hDd14
          replace hF39 := hF39.ext hDd14
          replace hN39 := hN39.ext hDd14
          replace hB10 := hB10.ext hDd14
          replace hF41 := hF41.ext hDd14
          replace hN41 := hN41.ext hDd14
          replace hB11 := hB11.ext hDd14
          replace hO46 := hO46.ext hDd14
          refine PW_nil ?_
          refine thenE_n ?_
          refine W_cond rfl (fun hg62 => ?_) (fun hg62 => ?_)
          · have hg61 := not_true hg62
            refine W_seq ?_
            refine W_region ?_
            refine WL_q rfl (ev_assign rfl) ?_
            refine WL_nil ?_
            refine thenE_n ?_
            refine W_ret ?_
            refine thenE_r ?_
            refine ret1 rfl rfl ?_
            first | (exact ⟨rfl, hE⟩) | (exact (bneE hg61 (hr46.det1 hr35)).elim) | (exact absurd (hr46.det1 hr35) hp61) | (exact absurd (hr46.det1 hr35) (of_decide_eq_false hg61)) | (exact (bneE hg61 (hr46.det2 hr35)).elim) | (exact absurd (hr46.det2 hr35) hp61) | (exact absurd (hr46.det2 hr35) (of_decide_eq_false hg61)) | (exact (bneE hg61 (hr46.det3 hr35)).elim) | (exact absurd (hr46.det3 hr35) hp61) | (exact absurd (hr46.det3 hr35) (of_decide_eq_false hg61)) | (exact (tfX hg61).elim) | (exact (decF hg61).elim) | (exfalso; omega)
          · have hg61 := not_false hg62
            refine W_skip ?_
            refine thenE_n ?_
            refine W_seq ?_
            refine W_seq ?_
            refine W_drawE [(0, true), (1, true), (2, false), (3, false), (4, true)] mixed (by kernel_rfl) rfl (by kernel_rfl) ?_
            intro wd16 hEd16 hzd16
            replace hE := hE.trans hEd16
            replace hA := hA.ext hEd16
            replace hB := hB.ext hEd16
            replace hB3 := hB3.ext hEd16
            replace hB4 := hB4.ext hEd16
            replace hF31 := hF31.ext hEd16
            replace hN31 := hN31.ext hEd16
            replace hF33 := hF33.ext hEd16
            replace hN33 := hN33.ext hEd16
            replace hx35 := hx35.ext hEd16
            replace hF39 := hF39.ext hEd16
            replace hN39 := hN39.ext hEd16
            replace hB10 := hB10.ext hEd16
            replace hF41 := hF41.ext hEd16
            replace hN41 := hN41.ext hEd16
            replace hB11 := hB11.ext hEd16
            replace hO46 := hO46.ext hEd16
            replace hF60 := hF60.ext hEd16
            replace hN60 := hN60.ext hEd16
            have hDd16 := Ext.refl wd16
            refine PW_q rfl rfl (fun wq hq => ev_loads st31 sz31 rfl (cellsB (hq.blk hB11)) rfl) ?_
            refine PW_q rfl rfl (fun wq hq => ev_loads st25 sz25 rfl (cellsB (hq.blk hB4)) rfl) ?_
            refine PW_m rfl rfl (ev_call rfl (toNetwork_spec _ B _ hB (by omega) (by omega))) ?_
            rintro _ w65 ⟨h65, rfl, hF65, hE65⟩
            have hz65 := hE65.size
            replace hE := hE.trans hE65
            replace hDd16 := hDd16.trans hE65
            have hN65 := hF65.is
            refine ⟨hDd16, ?_⟩
            have hA_3 := hA.ext hDd16
            have hB_3 := hB.ext hDd16
            have hB3_3 := hB3.ext hDd16
            have hB4_3 := hB4.ext hDd16
            have hF31_3 := hF31.ext hDd16
            have hN31_3 := hN31.ext hDd16
            have hF33_3 := hF33.ext hDd16
            have hN33_3 := hN33.ext hDd16
            have hx35_3 := hx35.ext hDd16
            have hF39_3 := hF39.ext hDd16
            have hN39_3 := hN39.ext hDd16
            have hB10_3 := hB10.ext hDd16
            have hF41_3 := hF41.ext hDd16
            have hN41_3 := hN41.ext hDd16
            have hB11_3 := hB11.ext hDd16
            have hO46_3 := hO46.ext hDd16
            have hF60_3 := hF60.ext hDd16
            have hN60_3 := hN60.ext hDd16
            refine PW_m rfl rfl (ev_call rfl (eqNetwork_spec _ _ B _ hN41_3 hN65 (by omega))) ?_
            rintro _ w66 ⟨rfl, hE66⟩
            have hz66 := hE66.size
            replace hE := hE.trans hE66
            replace hDd16 := hDd16.trans hE66
            replace hF65 := hF65.ext hE66
            replace hN65 := hN65.ext hE66
            refine ⟨hDd16, ?_⟩
            refine PW_q rfl rfl (fun wq hq => ev_not rfl) ?_
            replace hA := hA.ext hDd16
            replace hB := hB.ext hDd16
            replace hB3 := hB3.ext hDd16
            replace hB4 := hB4.ext hDd16
            replace hF31 := hF31.ext hDd16
            replace hN31 := hN31.ext hDd16
            replace hF33 := hF33.ext hDd16
            replace hN33 := hN33.ext hDd16
            replace hx35 := hx35.ext hDd16
            replace hF39 := hF39.ext hDd16
            replace hN39 := hN39.ext hDd16
            replace hB10 := hB10.ext hDd16
            replace hF41 := hF41.ext hDd16
            replace hN41 := hN41.ext hDd16
            replace hB11 := hB11.ext hDd16
            replace hO46 := hO46.ext hDd16
            replace hF60 := hF60.ext hDd16
            replace hN60 := hN60.ext hDd16
            refine PW_nil ?_
            refine thenE_n ?_
            refine W_cond rfl (fun hg67 => ?_) (fun hg67 => ?_)
            · have hg66 := not_true hg67
              refine W_seq ?_
              refine W_region ?_
              refine WL_q rfl (ev_assign rfl) ?_
              refine WL_nil ?_
              refine thenE_n ?_
              refine W_ret ?_
              refine thenE_r ?_
              refine ret1 rfl rfl ?_
              first | (exact ⟨rfl, hE⟩) | (exact (bneE hg66 (hr46.det1 hr35)).elim) | (exact absurd (hr46.det1 hr35) hp66) | (exact absurd (hr46.det1 hr35) (of_decide_eq_false hg66)) | (exact (bneE hg66 (hr46.det2 hr35)).elim) | (exact absurd (hr46.det2 hr35) hp66) | (exact absurd (hr46.det2 hr35) (of_decide_eq_false hg66)) | (exact (bneE hg66 (hr46.det3 hr35)).elim) | (exact absurd (hr46.det3 hr35) hp66) | (exact absurd (hr46.det3 hr35) (of_decide_eq_false hg66)) | (exact (tfX hg66).elim) | (exact (decF hg66).elim) | (exfalso; omega)
            · have hg66 := not_false hg67
              refine W_skip ?_
              refine thenE_n ?_
              refine W_seq ?_
              refine W_region ?_
              refine WL_q rfl (ev_assign rfl) ?_
              refine WL_nil ?_
              refine thenE_n ?_
              refine W_seq ?_
              refine W_region ?_
              refine WL_q rfl (ev_loads st31 sz31 rfl (cellsB hB10) rfl) ?_
              refine WL_q rfl (ev_move rfl) ?_
              refine WL_m rfl (ev_call rfl (markNetwork_spec _ A _ _ hF39 (by omega) (by omega) (by omega))) ?_
              rintro _ w70 ⟨r70, rfl, hr70, hK70⟩
              have hz70 := hK70.size
              replace hE := hE.mrk hK70 (by omega)
              replace hA := hA.mrk hK70 (by omega)
              replace hB := hB.mrk hK70 (by omega)
              replace hB3 := hB3.mrk hK70 (by omega)
              replace hB4 := hB4.mrk hK70 (by omega)
              replace hF31 := hF31.mrk hK70 (by omega)
              replace hN31 := hN31.mrk hK70 (by omega)
              replace hF33 := hF33.mrk hK70 (by omega)
              replace hN33 := hN33.mrk hK70 (by omega)
              replace hx35 := hx35.mrk hK70 (by omega)
              replace hB10 := hB10.mrk hK70 (by omega)
              replace hF41 := hF41.mrk hK70 (by omega)
              replace hN41 := hN41.mrk hK70 (by omega)
              replace hB11 := hB11.mrk hK70 (by omega)
              replace hO46 := hO46.mrk hK70 (by omega)
              replace hF60 := hF60.mrk hK70 (by omega)
              replace hN60 := hN60.mrk hK70 (by omega)
              replace hF65 := hF65.mrk hK70 (by omega)
              replace hN65 := hN65.mrk hK70 (by omega)
              refine WL_q rfl (ev_assign rfl) ?_
              refine WL_nil ?_
              refine thenE_n ?_
              refine W_seq ?_
              refine W_region ?_
              refine WL_q rfl (ev_loads st31 sz31 rfl (cellsB hB11) rfl) ?_
              refine WL_q rfl (ev_move rfl) ?_
              refine WL_m rfl (ev_call rfl (markNetwork_spec _ B _ _ hF41 (by omega) (by omega) (by omega))) ?_
              rintro _ w73 ⟨r73, rfl, hr73, hK73⟩
              have hz73 := hK73.size
              replace hE := hE.mrk hK73 (by omega)
              replace hA := hA.mrk hK73 (by omega)
              replace hB := hB.mrk hK73 (by omega)
              replace hB3 := hB3.mrk hK73 (by omega)
              replace hB4 := hB4.mrk hK73 (by omega)
              replace hF31 := hF31.mrk hK73 (by omega)
              replace hN31 := hN31.mrk hK73 (by omega)
              replace hF33 := hF33.mrk hK73 (by omega)
              replace hN33 := hN33.mrk hK73 (by omega)
              replace hx35 := hx35.mrk hK73 (by omega)
              replace hB10 := hB10.mrk hK73 (by omega)
              replace hB11 := hB11.mrk hK73 (by omega)
              replace hO46 := hO46.mrk hK73 (by omega)
              replace hF60 := hF60.mrk hK73 (by omega)
              replace hN60 := hN60.mrk hK73 (by omega)
              replace hF65 := hF65.mrk hK73 (by omega)
              replace hN65 := hN65.mrk hK73 (by omega)
              refine WL_q rfl (ev_assign rfl) ?_
              refine WL_nil ?_
              refine thenE_n ?_
              refine W_seq ?_
              refine W_seq ?_
              refine W_region ?_
              refine WL_q rfl (ev_move rfl) ?_
              refine WL_q rfl (ev_lss rfl rfl) ?_
              refine WL_q rfl (ev_move rfl) ?_
              refine WL_splitv (t := 76) rfl (fun hg75 => ?_) (fun hg75 => ?_)
              · have hp75 := of_decide_eq_true hg75
                refine WL_no rfl rfl hg75 rfl ?_
                refine WL_no rfl rfl hg75 rfl ?_
                refine WL_no rfl rfl hg75 rfl ?_
                refine WL_no rfl rfl hg75 rfl ?_
                refine WL_q rfl (ev_pick_t rfl hg75 rfl) ?_
                refine WL_q rfl (ev_move rfl) ?_
                refine WL_no rfl rfl rfl rfl ?_
                refine WL_no rfl rfl rfl rfl ?_
                refine WL_no rfl rfl rfl rfl ?_
                refine WL_q rfl (ev_pick_t rfl rfl rfl) ?_
                refine WL_nil ?_
                refine thenE_n ?_
                refine W_cond_t rfl ?_
                refine W_seq ?_
                refine W_region ?_
                refine WL_q rfl (ev_assign rfl) ?_
                refine WL_nil ?_
                refine thenE_n ?_
                refine W_ret ?_
                refine thenE_r ?_
                refine ret1 rfl rfl ?_
                first | (exact ⟨rfl, hE⟩) | (exact (bneE hg75 (hr46.det1 hr35)).elim) | (exact absurd (hr46.det1 hr35) hp75) | (exact absurd (hr46.det1 hr35) (of_decide_eq_false hg75)) | (exact (bneE hg75 (hr46.det2 hr35)).elim) | (exact absurd (hr46.det2 hr35) hp75) | (exact absurd (hr46.det2 hr35) (of_decide_eq_false hg75)) | (exact (bneE hg75 (hr46.det3 hr35)).elim) | (exact absurd (hr46.det3 hr35) hp75) | (exact absurd (hr46.det3 hr35) (of_decide_eq_false hg75)) | (exact (tfX hg75).elim) | (exact (decF hg75).elim) | (exfalso; omega)
              · have hp75 := of_decide_eq_false hg75
                refine WL_qg rfl rfl hg75 rfl (ev_move rfl) ?_
                refine WL_qg rfl rfl hg75 rfl (ev_move rfl) ?_
                refine WL_mg rfl rfl hg75 rfl (ev_call rfl (eqIntS_spec _ _ _ _ y46 y35 _ (ownt_i hO46) hx35 (by omega))) ?_
                rintro _ w79 ⟨rfl, hE79⟩
                have hz79 := hE79.size
                replace hE := hE.trans hE79
                replace hA := hA.ext hE79
                replace hB := hB.ext hE79
                replace hB3 := hB3.ext hE79
                replace hB4 := hB4.ext hE79
                replace hF31 := hF31.ext hE79
                replace hN31 := hN31.ext hE79
                replace hF33 := hF33.ext hE79
                replace hN33 := hN33.ext hE79
                replace hx35 := hx35.ext hE79
                replace hB10 := hB10.ext hE79
                replace hB11 := hB11.ext hE79
                replace hO46 := hO46.ext hE79
                replace hF60 := hF60.ext hE79
                replace hN60 := hN60.ext hE79
                replace hF65 := hF65.ext hE79
                replace hN65 := hN65.ext hE79
                refine WL_qg rfl rfl hg75 rfl (ev_not rfl) ?_
                refine WL_q rfl (ev_pick_f rfl hg75 rfl) ?_
                refine WL_q rfl (ev_move rfl) ?_
                refine WL_splitv (t := 82) rfl (fun hg80 => ?_) (fun hg80 => ?_)
                · have hg79 := not_true hg80
                  refine WL_no rfl rfl hg80 rfl ?_
                  refine WL_no rfl rfl hg80 rfl ?_
                  refine WL_no rfl rfl hg80 rfl ?_
                  refine WL_q rfl (ev_pick_t rfl hg80 rfl) ?_
                  refine WL_nil ?_
                  refine thenE_n ?_
                  refine W_cond_t rfl ?_
                  refine W_seq ?_
                  refine W_region ?_
                  refine WL_q rfl (ev_assign rfl) ?_
                  refine WL_nil ?_
                  refine thenE_n ?_
                  refine W_ret ?_
                  refine thenE_r ?_
                  refine ret1 rfl rfl ?_
                  first | (exact ⟨rfl, hE⟩) | (exact (bneE hg79 (hr46.det1 hr35)).elim) | (exact absurd (hr46.det1 hr35) hp79) | (exact absurd (hr46.det1 hr35) (of_decide_eq_false hg79)) | (exact (bneE hg79 (hr46.det2 hr35)).elim) | (exact absurd (hr46.det2 hr35) hp79) | (exact absurd (hr46.det2 hr35) (of_decide_eq_false hg79)) | (exact (bneE hg79 (hr46.det3 hr35)).elim) | (exact absurd (hr46.det3 hr35) hp79) | (exact absurd (hr46.det3 hr35) (of_decide_eq_false hg79)) | (exact (tfX hg79).elim) | (exact (decF hg79).elim) | (exfalso; omega)
                · have hg79 := not_false hg80
                  refine WL_qg rfl rfl hg80 rfl (ev_move rfl) ?_
                  refine WL_qg rfl rfl hg80 rfl (ev_move rfl) ?_
                  refine WL_qg rfl rfl hg80 rfl (ev_neq_b Try.underlying4 rfl rfl) ?_
                  refine WL_q rfl (ev_pick_f rfl hg80 rfl) ?_
                  refine WL_nil ?_
                  refine thenE_n ?_
                  refine W_cond rfl (fun hg85 => ?_) (fun hg85 => ?_)
                  · refine W_seq ?_
                    refine W_region ?_
                    refine WL_q rfl (ev_assign rfl) ?_
                    refine WL_nil ?_
                    refine thenE_n ?_
                    refine W_ret ?_
                    refine thenE_r ?_
                    refine ret1 rfl rfl ?_
                    first | (exact ⟨rfl, hE⟩) | (exact (bneE hg85 (hr46.det1 hr35)).elim) | (exact absurd (hr46.det1 hr35) hp85) | (exact absurd (hr46.det1 hr35) (of_decide_eq_false hg85)) | (exact (bneE hg85 (hr46.det2 hr35)).elim) | (exact absurd (hr46.det2 hr35) hp85) | (exact absurd (hr46.det2 hr35) (of_decide_eq_false hg85)) | (exact (bneE hg85 (hr46.det3 hr35)).elim) | (exact absurd (hr46.det3 hr35) hp85) | (exact absurd (hr46.det3 hr35) (of_decide_eq_false hg85)) | (exact (tfX hg85).elim) | (exact (decF hg85).elim) | (exfalso; omega)
                  · refine W_skip ?_
                    refine thenE_n ?_
                    refine W_seq ?_
                    refine W_region ?_
                    refine WL_q rfl (ev_assign rfl) ?_
                    refine WL_nil ?_
                    refine thenE_n ?_
                    refine W_seq ?_
                    refine W_region ?_
                    refine WL_q rfl (ev_move rfl) ?_
                    refine WL_q rfl (ev_move rfl) ?_
                    refine WL_m rfl (ev_call rfl (markIntS_ownH hO46 (by omega) (by omega))) ?_
                    rintro _ w89 ⟨rfl, hO89, hK89⟩
                    have hz89 := hK89.size
                    have hR89 := hK89
                    replace hE := hE.rg hR89 (by omega)
                    replace hA := hA.rg hR89 (by omega)
                    replace hB := hB.rg hR89 (by omega)
                    replace hB3 := hB3.rg hR89 (by omega)
                    replace hB4 := hB4.rg hR89 (by omega)
                    replace hF31 := hF31.rg hR89 (by omega)
                    replace hN31 := hN31.rg hR89 (by omega)
                    replace hF33 := hF33.rg hR89 (by omega)
                    replace hN33 := hN33.rg hR89 (by omega)
                    replace hx35 := hx35.rg hR89 (by omega)
                    replace hB10 := hB10.rg hR89 (by omega)
                    replace hB11 := hB11.rg hR89 (by omega)
                    replace hF60 := hF60.rg hR89 (by omega)
                    replace hN60 := hN60.rg hR89 (by omega)
                    replace hF65 := hF65.rg hR89 (by omega)
                    replace hN65 := hN65.rg hR89 (by omega)
                    replace hO46 := hO89
                    refine WL_q rfl (ev_assign rfl) ?_
                    refine WL_nil ?_
                    refine thenE_n ?_
                    refine W_seq ?_
                    refine W_region ?_
                    refine WL_q rfl (ev_assign rfl) ?_
                    refine WL_nil ?_
                    refine thenE_n ?_
                    refine W_seq ?_
                    refine W_region ?_
                    refine WL_q rfl (ev_move rfl) ?_
                    refine WL_q rfl (ev_move rfl) ?_
                    refine WL_m rfl (ev_call rfl (heldIntS_spec _ _ (nums 1 y46.length) _ _ (Ints.of_own (nums_len _ _) hO46.1) rfl (by omega) (by omega))) ?_
                    rintro _ w92 ⟨rfl, hE92⟩
                    have hz92 := hE92.size
                    replace hE := hE.trans hE92
                    replace hA := hA.ext hE92
                    replace hB := hB.ext hE92
                    replace hB3 := hB3.ext hE92
                    replace hB4 := hB4.ext hE92
                    replace hF31 := hF31.ext hE92
                    replace hN31 := hN31.ext hE92
                    replace hF33 := hF33.ext hE92
                    replace hN33 := hN33.ext hE92
                    replace hx35 := hx35.ext hE92
                    replace hB10 := hB10.ext hE92
                    replace hB11 := hB11.ext hE92
                    replace hO46 := hO46.ext hE92
                    replace hF60 := hF60.ext hE92
                    replace hN60 := hN60.ext hE92
                    replace hF65 := hF65.ext hE92
                    replace hN65 := hN65.ext hE92
                    refine WL_q rfl (ev_assign rfl) ?_
                    refine WL_nil ?_
                    refine thenE_n ?_
                    refine W_seq ?_
                    refine W_seq ?_
                    refine W_region ?_
                    refine WL_q rfl (ev_move rfl) ?_
                    refine WL_q rfl (ev_lss rfl rfl) ?_
                    refine WL_nil ?_
                    refine thenE_n ?_
                    refine W_cond rfl (fun hg94 => ?_) (fun hg94 => ?_)
                    · have hp94 := of_decide_eq_true hg94
                      refine W_seq ?_
                      refine W_region ?_
                      refine WL_q rfl (ev_assign rfl) ?_
                      refine WL_nil ?_
                      refine thenE_n ?_
                      refine W_ret ?_
                      refine thenE_r ?_
                      refine ret1 rfl rfl ?_
                      first | (exact ⟨rfl, hE⟩) | (exact (bneE hg94 (hr46.det1 hr35)).elim) | (exact absurd (hr46.det1 hr35) hp94) | (exact absurd (hr46.det1 hr35) (of_decide_eq_false hg94)) | (exact (bneE hg94 (hr46.det2 hr35)).elim) | (exact absurd (hr46.det2 hr35) hp94) | (exact absurd (hr46.det2 hr35) (of_decide_eq_false hg94)) | (exact (bneE hg94 (hr46.det3 hr35)).elim) | (exact absurd (hr46.det3 hr35) hp94) | (exact absurd (hr46.det3 hr35) (of_decide_eq_false hg94)) | (exact (tfX hg94).elim) | (exact (decF hg94).elim) | (exfalso; omega)
                    · have hp94 := of_decide_eq_false hg94
                      refine W_skip ?_
                      refine thenE_n ?_
                      refine W_seq ?_
                      refine W_seq ?_
                      refine W_region ?_
                      refine WL_q rfl (ev_move rfl) ?_
                      refine WL_q rfl (ev_move rfl) ?_
                      refine WL_q rfl (ev_neq rfl rfl) ?_
                      refine WL_nil ?_
                      refine thenE_n ?_
                      refine W_cond rfl (fun hg97 => ?_) (fun hg97 => ?_)
                      · have hp97 := of_decide_eq_true hg97
                        refine W_seq ?_
                        refine W_region ?_
                        refine WL_q rfl (ev_assign rfl) ?_
                        refine WL_nil ?_
                        refine thenE_n ?_
                        refine W_ret ?_
                        refine thenE_r ?_
                        refine ret1 rfl rfl ?_
                        first | (exact ⟨rfl, hE⟩) | (exact (bneE hg97 (hr46.det1 hr35)).elim) | (exact absurd (hr46.det1 hr35) hp97) | (exact absurd (hr46.det1 hr35) (of_decide_eq_false hg97)) | (exact (bneE hg97 (hr46.det2 hr35)).elim) | (exact absurd (hr46.det2 hr35) hp97) | (exact absurd (hr46.det2 hr35) (of_decide_eq_false hg97)) | (exact (bneE hg97 (hr46.det3 hr35)).elim) | (exact absurd (hr46.det3 hr35) hp97) | (exact absurd (hr46.det3 hr35) (of_decide_eq_false hg97)) | (exact (tfX hg97).elim) | (exact (decF hg97).elim) | (exfalso; omega)
                      · have hp97 := of_decide_eq_false hg97
                        refine W_skip ?_
                        refine thenE_n ?_
                        refine W_seq ?_
                        refine W_drawE [(0, true), (2, true), (4, true), (1, false), (3, false), (5, false), (6, true), (7, true), (8, true), (9, true), (10, true)] mixed (by kernel_rfl) rfl (by kernel_rfl) ?_
                        intro wd31 hEd31 hzd31
                        replace hE := hE.trans hEd31
                        replace hA := hA.ext hEd31
                        replace hB := hB.ext hEd31
                        replace hB3 := hB3.ext hEd31
                        replace hB4 := hB4.ext hEd31
                        replace hF31 := hF31.ext hEd31
                        replace hN31 := hN31.ext hEd31
                        replace hF33 := hF33.ext hEd31
                        replace hN33 := hN33.ext hEd31
                        replace hx35 := hx35.ext hEd31
                        replace hB10 := hB10.ext hEd31
                        replace hB11 := hB11.ext hEd31
                        replace hO46 := hO46.ext hEd31
                        replace hF60 := hF60.ext hEd31
                        replace hN60 := hN60.ext hEd31
                        replace hF65 := hF65.ext hEd31
                        replace hN65 := hN65.ext hEd31
                        have hDd31 := Ext.refl wd31
                        refine PW_q rfl rfl (fun wq hq => ev_loads st25 sz25 rfl (cellsB (hq.blk hB3)) rfl) ?_
                        refine PW_q rfl rfl (fun wq hq => ev_loads st25 sz25 rfl (cellsB (hq.blk hB4)) rfl) ?_
                        refine PW_q rfl rfl (fun wq hq => ev_move rfl) ?_
                        refine PW_m rfl rfl (ev_call rfl (toNetwork_spec _ A _ hA (by omega) (by omega))) ?_
                        rintro _ w100 ⟨h100, rfl, hF100, hE100⟩
                        have hz100 := hE100.size
                        replace hE := hE.trans hE100
                        replace hDd31 := hDd31.trans hE100
                        have hN100 := hF100.is
                        refine ⟨hDd31, ?_⟩
                        have hA_3 := hA.ext hDd31
                        have hB_3 := hB.ext hDd31
                        have hB3_3 := hB3.ext hDd31
                        have hB4_3 := hB4.ext hDd31
                        have hF31_3 := hF31.ext hDd31
                        have hN31_3 := hN31.ext hDd31
                        have hF33_3 := hF33.ext hDd31
                        have hN33_3 := hN33.ext hDd31
                        have hx35_3 := hx35.ext hDd31
                        have hB10_3 := hB10.ext hDd31
                        have hB11_3 := hB11.ext hDd31
                        have hO46_3 := hO46.ext hDd31
                        have hF60_3 := hF60.ext hDd31
                        have hN60_3 := hN60.ext hDd31
                        have hF65_3 := hF65.ext hDd31
                        have hN65_3 := hN65.ext hDd31
                        refine PW_m rfl rfl (ev_call rfl (toNetwork_spec _ B _ hB_3 (by omega) (by omega))) ?_
                        rintro _ w102 ⟨h102, rfl, hF102, hE102⟩
                        have hz102 := hE102.size
                        replace hE := hE.trans hE102
                        replace hDd31 := hDd31.trans hE102
                        replace hF100 := hF100.ext hE102
                        replace hN100 := hN100.ext hE102
                        have hN102 := hF102.is
                        refine ⟨hDd31, ?_⟩
                        have hA_5 := hA.ext hDd31
                        have hB_5 := hB.ext hDd31
                        have hB3_5 := hB3.ext hDd31
                        have hB4_5 := hB4.ext hDd31
                        have hF31_5 := hF31.ext hDd31
                        have hN31_5 := hN31.ext hDd31
                        have hF33_5 := hF33.ext hDd31
                        have hN33_5 := hN33.ext hDd31
                        have hx35_5 := hx35.ext hDd31
                        have hB10_5 := hB10.ext hDd31
                        have hB11_5 := hB11.ext hDd31
                        have hO46_5 := hO46.ext hDd31
                        have hF60_5 := hF60.ext hDd31
                        have hN60_5 := hN60.ext hDd31
                        have hF65_5 := hF65.ext hDd31
                        have hN65_5 := hN65.ext hDd31
                        refine PW_m rfl rfl (ev_call rfl (ExtendMap_spec _ A _ B _ _ hN100 (by omega) (by omega) hN102 (by omega) (by omega))) ?_
                        rintro _ w104 ⟨a104, c104, y104, q104, rfl, hr104, hO104, hl104, hE104⟩
                        have hz104 := hE104.size
                        replace hE := hE.trans hE104
                        replace hDd31 := hDd31.trans hE104
                        replace hF100 := hF100.ext hE104
                        replace hN100 := hN100.ext hE104
                        replace hF102 := hF102.ext hE104
                        replace hN102 := hN102.ext hE104
                        refine ⟨hDd31, ?_⟩
                        refine PW_q rfl rfl (fun wq hq => ev_move rfl) ?_
                        refine PW_q rfl rfl (fun wq hq => ev_extract rfl rfl) ?_
                        refine PW_q rfl rfl (fun wq hq => ev_extract rfl rfl) ?_
                        refine PW_q rfl rfl (fun wq hq => ev_assign rfl) ?_
                        refine PW_q rfl rfl (fun wq hq => ev_assign rfl) ?_
                        replace hA := hA.ext hDd31
                        replace hB := hB.ext hDd31
                        replace hB3 := hB3.ext hDd31
                        replace hB4 := hB4.ext hDd31
                        replace hF31 := hF31.ext hDd31
                        replace hN31 := hN31.ext hDd31
                        replace hF33 := hF33.ext hDd31
                        replace hN33 := hN33.ext hDd31
                        replace hx35 := hx35.ext hDd31
                        replace hB10 := hB10.ext hDd31
                        replace hB11 := hB11.ext hDd31
                        replace hO46 := hO46.ext hDd31
                        replace hF60 := hF60.ext hDd31
                        replace hN60 := hN60.ext hDd31
                        replace hF65 := hF65.ext hDd31
                        replace hN65 := hN65.ext hDd31
                        refine PW_nil ?_
                        refine thenE_n ?_
                        refine W_seq ?_
                        refine W_seq ?_
                        refine W_region ?_
                        refine WL_q rfl (ev_move rfl) ?_
                        refine WL_q rfl (ev_move rfl) ?_
                        refine WL_m rfl (ev_call rfl (eqIntS_spec _ _ _ _ y104 y35 _ (ownt_i hO104) hx35 (by omega))) ?_
                        rintro _ w109 ⟨rfl, hE109⟩
                        have hz109 := hE109.size
                        replace hE := hE.trans hE109
                        replace hA := hA.ext hE109
                        replace hB := hB.ext hE109
                        replace hB3 := hB3.ext hE109
                        replace hB4 := hB4.ext hE109
                        replace hF31 := hF31.ext hE109
                        replace hN31 := hN31.ext hE109
                        replace hF33 := hF33.ext hE109
                        replace hN33 := hN33.ext hE109
                        replace hx35 := hx35.ext hE109
                        replace hB10 := hB10.ext hE109
                        replace hB11 := hB11.ext hE109
                        replace hO46 := hO46.ext hE109
                        replace hF60 := hF60.ext hE109
                        replace hN60 := hN60.ext hE109
                        replace hF65 := hF65.ext hE109
                        replace hN65 := hN65.ext hE109
                        replace hF100 := hF100.ext hE109
                        replace hN100 := hN100.ext hE109
                        replace hF102 := hF102.ext hE109
                        replace hN102 := hN102.ext hE109
                        replace hO104 := hO104.ext hE109
                        refine WL_q rfl (ev_not rfl) ?_
                        refine WL_q rfl (ev_move rfl) ?_
                        refine WL_splitv (t := 111) rfl (fun hg110 => ?_) (fun hg110 => ?_)
                        · have hg109 := not_true hg110
                          refine WL_no rfl rfl hg110 rfl ?_
                          refine WL_no rfl rfl hg110 rfl ?_
                          refine WL_no rfl rfl hg110 rfl ?_
                          refine WL_q rfl (ev_pick_t rfl hg110 rfl) ?_
                          refine WL_nil ?_
                          refine thenE_n ?_
                          refine W_cond_t rfl ?_
                          refine W_seq ?_
                          refine W_region ?_
                          refine WL_q rfl (ev_assign rfl) ?_
                          refine WL_nil ?_
                          refine thenE_n ?_
                          refine W_ret ?_
                          refine thenE_r ?_
                          refine ret1 rfl rfl ?_
                          first | (exact ⟨rfl, hE⟩) | (exact (bneE hg109 (hr104.det1 hr35)).elim) | (exact absurd (hr104.det1 hr35) hp109) | (exact absurd (hr104.det1 hr35) (of_decide_eq_false hg109)) | (exact (bneE hg109 (hr104.det2 hr35)).elim) | (exact absurd (hr104.det2 hr35) hp109) | (exact absurd (hr104.det2 hr35) (of_decide_eq_false hg109)) | (exact (bneE hg109 (hr104.det3 hr35)).elim) | (exact absurd (hr104.det3 hr35) hp109) | (exact absurd (hr104.det3 hr35) (of_decide_eq_false hg109)) | (exact (bneE hg109 (hr46.det1 hr35)).elim) | (exact absurd (hr46.det1 hr35) hp109) | (exact absurd (hr46.det1 hr35) (of_decide_eq_false hg109)) | (exact (bneE hg109 (hr46.det2 hr35)).elim) | (exact absurd (hr46.det2 hr35) hp109) | (exact absurd (hr46.det2 hr35) (of_decide_eq_false hg109)) | (exact (bneE hg109 (hr46.det3 hr35)).elim) | (exact absurd (hr46.det3 hr35) hp109) | (exact absurd (hr46.det3 hr35) (of_decide_eq_false hg109)) | (exact (tfX hg109).elim) | (exact (decF hg109).elim) | (exfalso; omega)
                        · have hg109 := not_false hg110
                          refine WL_qg rfl rfl hg110 rfl (ev_move rfl) ?_
                          refine WL_qg rfl rfl hg110 rfl (ev_move rfl) ?_
                          refine WL_qg rfl rfl hg110 rfl (ev_neq_b Try.underlying4 rfl rfl) ?_
                          refine WL_q rfl (ev_pick_f rfl hg110 rfl) ?_
                          refine WL_nil ?_
                          refine thenE_n ?_
                          refine W_cond rfl (fun hg114 => ?_) (fun hg114 => ?_)
                          · refine W_seq ?_
                            refine W_region ?_
                            refine WL_q rfl (ev_assign rfl) ?_
                            refine WL_nil ?_
                            refine thenE_n ?_
                            refine W_ret ?_
                            refine thenE_r ?_
                            refine ret1 rfl rfl ?_
                            first | (exact ⟨rfl, hE⟩) | (exact (bneE hg114 (hr104.det1 hr35)).elim) | (exact absurd (hr104.det1 hr35) hp114) | (exact absurd (hr104.det1 hr35) (of_decide_eq_false hg114)) | (exact (bneE hg114 (hr104.det2 hr35)).elim) | (exact absurd (hr104.det2 hr35) hp114) | (exact absurd (hr104.det2 hr35) (of_decide_eq_false hg114)) | (exact (bneE hg114 (hr104.det3 hr35)).elim) | (exact absurd (hr104.det3 hr35) hp114) | (exact absurd (hr104.det3 hr35) (of_decide_eq_false hg114)) | (exact (bneE hg114 (hr46.det1 hr35)).elim) | (exact absurd (hr46.det1 hr35) hp114) | (exact absurd (hr46.det1 hr35) (of_decide_eq_false hg114)) | (exact (bneE hg114 (hr46.det2 hr35)).elim) | (exact absurd (hr46.det2 hr35) hp114) | (exact absurd (hr46.det2 hr35) (of_decide_eq_false hg114)) | (exact (bneE hg114 (hr46.det3 hr35)).elim) | (exact absurd (hr46.det3 hr35) hp114) | (exact absurd (hr46.det3 hr35) (of_decide_eq_false hg114)) | (exact (tfX hg114).elim) | (exact (decF hg114).elim) | (exfalso; omega)
                          · refine W_skip ?_
                            refine thenE_n ?_
                            refine W_seq ?_
                            refine W_region ?_
                            refine WL_q rfl (ev_assign rfl) ?_
                            refine WL_nil ?_
                            refine thenE_n ?_
                            refine W_seq ?_
                            refine W_region ?_
                            refine WL_q rfl (ev_move rfl) ?_
                            refine WL_q rfl (ev_move rfl) ?_
                            refine WL_m rfl (ev_call rfl (heldIntS_spec _ _ (nums 1 y46.length) _ _ (Ints.of_own (nums_len _ _) hO46.1) rfl (by omega) (by omega))) ?_
                            rintro _ w118 ⟨rfl, hE118⟩
                            have hz118 := hE118.size
                            replace hE := hE.trans hE118
                            replace hA := hA.ext hE118
                            replace hB := hB.ext hE118
                            replace hB3 := hB3.ext hE118
                            replace hB4 := hB4.ext hE118
                            replace hF31 := hF31.ext hE118
                            replace hN31 := hN31.ext hE118
                            replace hF33 := hF33.ext hE118
                            replace hN33 := hN33.ext hE118
                            replace hx35 := hx35.ext hE118
                            replace hB10 := hB10.ext hE118
                            replace hB11 := hB11.ext hE118
                            replace hO46 := hO46.ext hE118
                            replace hF60 := hF60.ext hE118
                            replace hN60 := hN60.ext hE118
                            replace hF65 := hF65.ext hE118
                            replace hN65 := hN65.ext hE118
                            replace hF100 := hF100.ext hE118
                            replace hN100 := hN100.ext hE118
                            replace hF102 := hF102.ext hE118
                            replace hN102 := hN102.ext hE118
                            replace hO104 := hO104.ext hE118
                            refine WL_q rfl (ev_assign rfl) ?_
                            refine WL_nil ?_
                            refine thenE_n ?_
                            refine W_seq ?_
                            refine W_seq ?_
                            refine W_region ?_
                            refine WL_q rfl (ev_move rfl) ?_
                            refine WL_q rfl (ev_lss rfl rfl) ?_
                            refine WL_nil ?_
                            refine thenE_n ?_
                            refine W_cond rfl (fun hg120 => ?_) (fun hg120 => ?_)
                            · have hp120 := of_decide_eq_true hg120
                              refine W_seq ?_
                              refine W_region ?_
                              refine WL_q rfl (ev_assign rfl) ?_
                              refine WL_nil ?_
                              refine thenE_n ?_
                              refine W_ret ?_
                              refine thenE_r ?_
                              refine ret1 rfl rfl ?_
                              first | (exact ⟨rfl, hE⟩) | (exact (bneE hg120 (hr104.det1 hr35)).elim) | (exact absurd (hr104.det1 hr35) hp120) | (exact absurd (hr104.det1 hr35) (of_decide_eq_false hg120)) | (exact (bneE hg120 (hr104.det2 hr35)).elim) | (exact absurd (hr104.det2 hr35) hp120) | (exact absurd (hr104.det2 hr35) (of_decide_eq_false hg120)) | (exact (bneE hg120 (hr104.det3 hr35)).elim) | (exact absurd (hr104.det3 hr35) hp120) | (exact absurd (hr104.det3 hr35) (of_decide_eq_false hg120)) | (exact (bneE hg120 (hr46.det1 hr35)).elim) | (exact absurd (hr46.det1 hr35) hp120) | (exact absurd (hr46.det1 hr35) (of_decide_eq_false hg120)) | (exact (bneE hg120 (hr46.det2 hr35)).elim) | (exact absurd (hr46.det2 hr35) hp120) | (exact absurd (hr46.det2 hr35) (of_decide_eq_false hg120)) | (exact (bneE hg120 (hr46.det3 hr35)).elim) | (exact absurd (hr46.det3 hr35) hp120) | (exact absurd (hr46.det3 hr35) (of_decide_eq_false hg120)) | (exact (tfX hg120).elim) | (exact (decF hg120).elim) | (exfalso; omega)
                            · have hp120 := of_decide_eq_false hg120
                              refine W_skip ?_
                              refine thenE_n ?_
                              refine W_seq ?_
                              refine W_seq ?_
                              refine W_region ?_
                              refine WL_q rfl (ev_move rfl) ?_
                              refine WL_q rfl (ev_move rfl) ?_
                              refine WL_q rfl (ev_neq rfl rfl) ?_
                              refine WL_nil ?_
                              refine thenE_n ?_
                              refine W_cond rfl (fun hg123 => ?_) (fun hg123 => ?_)
                              · have hp123 := of_decide_eq_true hg123
                                refine W_seq ?_
                                refine W_region ?_
                                refine WL_q rfl (ev_assign rfl) ?_
                                refine WL_nil ?_
                                refine thenE_n ?_
                                refine W_ret ?_
                                refine thenE_r ?_
                                refine ret1 rfl rfl ?_
                                first | (exact ⟨rfl, hE⟩) | (exact (bneE hg123 (hr104.det1 hr35)).elim) | (exact absurd (hr104.det1 hr35) hp123) | (exact absurd (hr104.det1 hr35) (of_decide_eq_false hg123)) | (exact (bneE hg123 (hr104.det2 hr35)).elim) | (exact absurd (hr104.det2 hr35) hp123) | (exact absurd (hr104.det2 hr35) (of_decide_eq_false hg123)) | (exact (bneE hg123 (hr104.det3 hr35)).elim) | (exact absurd (hr104.det3 hr35) hp123) | (exact absurd (hr104.det3 hr35) (of_decide_eq_false hg123)) | (exact (bneE hg123 (hr46.det1 hr35)).elim) | (exact absurd (hr46.det1 hr35) hp123) | (exact absurd (hr46.det1 hr35) (of_decide_eq_false hg123)) | (exact (bneE hg123 (hr46.det2 hr35)).elim) | (exact absurd (hr46.det2 hr35) hp123) | (exact absurd (hr46.det2 hr35) (of_decide_eq_false hg123)) | (exact (bneE hg123 (hr46.det3 hr35)).elim) | (exact absurd (hr46.det3 hr35) hp123) | (exact absurd (hr46.det3 hr35) (of_decide_eq_false hg123)) | (exact (tfX hg123).elim) | (exact (decF hg123).elim) | (exfalso; omega)
                              · have hp123 := of_decide_eq_false hg123
                                refine W_skip ?_
                                refine thenE_n ?_
                                refine W_seq ?_
                                refine W_region ?_
                                refine WL_q rfl (ev_assign rfl) ?_
                                refine WL_nil ?_
                                refine thenE_n ?_
                                refine W_ret ?_
                                refine ret1 rfl rfl ?_
                                first | (exact ⟨rfl, hE⟩) | (exact (bneE hg123 (hr104.det1 hr35)).elim) | (exact absurd (hr104.det1 hr35) hp123) | (exact absurd (hr104.det1 hr35) (of_decide_eq_false hg123)) | (exact (bneE hg123 (hr104.det2 hr35)).elim) | (exact absurd (hr104.det2 hr35) hp123) | (exact absurd (hr104.det2 hr35) (of_decide_eq_false hg123)) | (exact (bneE hg123 (hr104.det3 hr35)).elim) | (exact absurd (hr104.det3 hr35) hp123) | (exact absurd (hr104.det3 hr35) (of_decide_eq_false hg123)) | (exact (bneE hg123 (hr46.det1 hr35)).elim) | (exact absurd (hr46.det1 hr35) hp123) | (exact absurd (hr46.det1 hr35) (of_decide_eq_false hg123)) | (exact (bneE hg123 (hr46.det2 hr35)).elim) | (exact absurd (hr46.det2 hr35) hp123) | (exact absurd (hr46.det2 hr35) (of_decide_eq_false hg123)) | (exact (bneE hg123 (hr46.det3 hr35)).elim) | (exact absurd (hr46.det3 hr35) hp123) | (exact absurd (hr46.det3 hr35) (of_decide_eq_false hg123)) | (exact (tfX hg123).elim) | (exact (decF hg123).elim) | (exfalso; omega)

end Go.Proofs.Ytjnkkadbfigmpaa
