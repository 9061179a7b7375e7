/- Contract of impl.parityDistances. -/
import Derived.Test.YtnngpblegbjfdaaOdd4
import Derived.Test.YtnngpblegbjfdaaMaps
namespace Go.Proofs.Ytnngpblegbjfdaa
open Go Go.RowKit

/-- The pairs that doubled nodes stand for. -/
def prs (xs : List Int) : List (Int × Int) := xs.map fun x => (x / 2, x % 2)
theorem prs_len {xs : List Int} : (prs xs).length = xs.length := by simp [prs]
theorem prs_one {v : Nat} {V : Int} (h : ((2 * v : Nat) : Int) = V) : [VI (v : Int), VI 0] = pairCells (prs [V]) := by
  subst h
  have e1 : ((2 * v : Nat) : Int) / 2 = (v : Int) := by omega
  have e2 : ((2 * v : Nat) : Int) % 2 = 0 := by omega
  simp only [prs, List.map_cons, List.map_nil, e1, e2]
  rfl
theorem prs_at0 {l : List Int} {i : Nat} {x y p : Int} (h : i < l.length) (hx : l[i] = x) (hy : x / 2 = y) (hp : x % 2 = p) {h2 : 0 < (prs (l.drop i)).length} : (prs (l.drop i))[0] = (y, p) := by
  simp [prs, hx, hy, hp]
theorem prs_tail {l : List Int} {i : Nat} : pairCells (prs (l.drop i)).tail = pairCells (prs (l.drop (i + 1))) := by
  unfold prs
  rw [← List.map_tail, List.tail_drop]
theorem prs_snoc {l : List Int} {i : Nat} {z e q : Int} (h : i ≤ l.length) (he : z / 2 = e) (hq : z % 2 = q) : pairCells (prs (l.drop i)) ++ [VI e, VI q] = pairCells (prs ((l ++ [z]).drop i)) := by
  rw [List.drop_append_of_le_length h]
  subst he hq
  simp only [prs, List.map_append, pairCells_append]
  rfl
theorem ownq_p {lo hi : Nat} {w : World} {E : TypeId} {a : Option Addr} {n c : Nat} {ps : List (Int × Int)} (h : OwnQ lo hi w E 2 a n c (pairCells ps)) : Pairs lo w.heap.size w a c ps := Pairs.mk (by have := h.cap; rw [pairCells_length] at this; omega) h.sat
theorem ownqn_to {lo hi : Nat} {w : World} {E : TypeId} {a : Option Addr} {n n' c sz : Nat} {xs ys : List Value} (h : OwnQ lo hi w E sz a n c xs) (e : xs = ys) (hn : n = n') : OwnQ lo hi w E sz a n' c ys := by subst e hn; exact h
theorem pairCells_drop1 {ps : List (Int × Int)} : (pairCells ps).drop 2 = pairCells ps.tail := by
  cases ps with
  | nil => rfl
  | cons p r => rfl
theorem ownqp_drop1 {lo hi : Nat} {w : World} {E : TypeId} {a : Option Addr} {n c : Nat} {ps : List (Int × Int)} {k : Int} (h : OwnQ lo hi w E 2 a n c (pairCells ps)) (hk : k = 1) (hn : 0 < n) : OwnQ lo hi w E 2 (if c = k.toNat then a else a.map (·.add (k.toNat * 2))) (n - k.toNat) (c - k.toNat) (pairCells ps.tail) := by
  subst hk
  have := h.drop (k := 1) (by omega)
  rw [Nat.one_mul, pairCells_drop1] at this
  exact this
theorem qfst {lo hi : Nat} {w : World} {a : Option Addr} {c : Nat} {ps : List (Int × Int)} {i j : Nat} {y p : Int} (h : Pairs lo hi w a c ps) (hi : i < ps.length) (e : ps[i] = (y, p)) (hj : j = offOf a + i * 2 + 0) : w.cell? ⟨blkOf a, j, none⟩ = some (VI y) := by
  subst hj
  have := h.fst hi
  rwa [e] at this
theorem qsnd {lo hi : Nat} {w : World} {a : Option Addr} {c : Nat} {ps : List (Int × Int)} {i j : Nat} {y p : Int} (h : Pairs lo hi w a c ps) (hi : i < ps.length) (e : ps[i] = (y, p)) (hj : j = offOf a + i * 2 + 1) : w.cell? ⟨blkOf a, j, none⟩ = some (VI p) := by
  subst hj
  have := h.snd hi
  rwa [e] at this
theorem bfsD0 {ends : Ends} {v : Nat} {V : Int} (h : ((2 * v : Nat) : Int) = V) : (List.replicate (2 * ends.length) (-1)).set (2 * v) 0 = (bfsN (dbl ends) V 0).1 := by
  subst h
  rw [← dbl_len]; rfl
theorem near_dbl_len {ends : Ends} {x y : Int} (h0 : 0 ≤ x) (h1 : x.toNat < 2 * ends.length) (hy : x / 2 = y) (h2 : y.toNat < ends.length) : (near (dbl ends) x).length = ends[y.toNat].length := by
  subst hy
  rw [near_dbl h0 h1, List.length_map, near_len h2]
theorem near_dbl_at {ends : Ends} {x y p z : Int} {k : Nat} (h0 : 0 ≤ x) (h1 : x.toNat < 2 * ends.length) (hy : x / 2 = y) (hp : x % 2 = p) (h2 : y.toNat < ends.length) (hk : k < ends[y.toNat].length) (hz : 2 * ends[y.toNat][k].1 + (1 - p) = z) (h3 : k < (near (dbl ends) x).length) : (near (dbl ends) x)[k] = z := by
  subst hy hp hz
  simp only [near_dbl h0 h1, List.getElem_map]
  rw [near_at h2 hk (by rw [near_len h2]; exact hk)]

set_option maxHeartbeats 2000000 in
set_option maxRecDepth 100000 in
theorem par_spec {lo hi : Nat} (h : NA) (A : Net) (v : Nat) (w : World) (hA : IsNet lo hi w h A) (hhi : hi ≤ w.heap.size) (hn : totN A ≤ 1048576) (h40 : A.ends.length ≤ 40) (hk : EndsOk A.ends) (hv : v < A.ends.length) :
    Fn Try.prog 28 #[netV h A, VI (v : Int)] w (fun r w' => ∃ b : Nat, r = .slice (some ⟨b, 0, none⟩) A.ends.length A.ends.length ∧ Blk w' b 52 ((bfs (dbl A.ends) ((2 * v : Nat) : Int)).map VI) ∧ w.heap.size ≤ b ∧ Ext w w') := by
  have hn0 := hn
  unfold totN at hn
  have hq1 := totL_len A.ends
  have hDl := dbl_len (ends := A.ends)
  have hkD := dbl_ok hk
  obtain ⟨V, hVe⟩ : ∃ V : Int, ((2 * v : Nat) : Int) = V := ⟨_, rfl⟩
  rw [hVe]
  have hV0 : 0 ≤ V := by omega
  have hV1 : V.toNat < (dbl A.ends).length := by rw [dbl_len]; omega
  have hE := Ext.refl w
  refine Fn_of Try.func28 rfl rfl (by kernel_rfl) rfl ?_
  refine W_seq ?_
  refine W_region ?_
  refine WL_m rfl (ev_box rfl) ?_
  rintro _ w2 ⟨rfl, hN2⟩
  have hz2 := hN2.size
  replace hE := hE.trans hN2.ext
  replace hA := hA.ext hN2.ext
  have hB2 : Blk w2 _ _ [_, _, _] := hN2.blk
  refine WL_q rfl (ev_assign rfl) ?_
  refine WL_nil ?_
  refine thenE_n ?_
  refine W_seq ?_
  refine W_region ?_
  refine WL_q rfl (ev_buildA2 (m := 0) Try.underlying52 sz3 zr52 rfl rfl rfl rfl) ?_
  refine WL_m rfl (ev_lit1 Try.underlying53 el52 (by decide) (by decide) rfl rfl) ?_
  rintro _ w12 ⟨rfl, hN12⟩
  have hz12 := hN12.size
  replace hE := hE.trans hN12.ext
  replace hA := hA.ext hN12.ext
  replace hB2 := hB2.ext hN12.ext
  have hB12 := hN12.blk
  refine WL_q rfl (ev_fieldAddr fo31_0 rfl) ?_
  refine WL_q rfl (ev_load one29 rfl (hB2.cell rfl)) ?_
  refine WL_q rfl (ev_len Try.underlying29 rfl) ?_
  refine WL_m rfl (ev_call rfl (Repeat_two _ _ (-1) A.ends.length _ (SAt.of_blk (cs := [_, _]) (ds := []) hB12) (by omega) (by omega) (by omega))) ?_
  rintro _ w16 ⟨rfl, hR16, hE16⟩
  have hz16 := hE16.size
  replace hE := hE.trans hE16
  replace hA := hA.ext hE16
  replace hB2 := hB2.ext hE16
  replace hB12 := hB12.ext hE16
  have hb16 := hR16.lt
  refine WL_q rfl (ev_assign rfl) ?_
  refine WL_nil ?_
  refine thenE_n ?_
  refine W_seq ?_
  refine W_region ?_
  refine WL_q rfl (ev_move rfl) ?_
  refine WL_q rfl (ev_move rfl) ?_
  refine WL_q rfl (ev_indexAddr Try.underlying53 sz52 rfl rfl rfl (by omega) (by omega)) ?_
  refine WL_q rfl (ev_indexAddrA Try.underlying52 sz3 rfl rfl (by omega) (by omega)) ?_
  refine WL_s (ev_store sz3 rfl rfl rfl hR16 (by simp; omega)) ?_
  rintro _ w2_4 hS2_4
  have hz2_4 := hS2_4.size
  replace hE := hE.sto hS2_4 (by omega)
  replace hA := hA.sto hS2_4 (by omega)
  replace hB2 := hB2.sto hS2_4 (by omega)
  replace hB12 := hB12.sto hS2_4 (by omega)
  replace hR16 := hS2_4.blk
  replace hR16 := blk_to (iset (i := 2 * v) (by omega) hR16) (bfsD0 hVe)
  refine WL_nil ?_
  refine thenE_n ?_
  refine W_seq ?_
  refine W_region ?_
  refine WL_q rfl (ev_move rfl) ?_
  refine WL_q rfl (ev_buildA2 (m := 0) Try.underlying52 sz3 zr52 rfl rfl rfl rfl) ?_
  refine WL_m rfl (ev_lit1 Try.underlying53 el52 (by decide) (by decide) rfl rfl) ?_
  rintro _ w23 ⟨rfl, hN23⟩
  have hz23 := hN23.size
  replace hE := hE.trans hN23.ext
  replace hA := hA.ext hN23.ext
  replace hB2 := hB2.ext hN23.ext
  replace hB12 := hB12.ext hN23.ext
  replace hR16 := hR16.ext hN23.ext
  have hB23 := hN23.blk
  have hOq := ownqn_to (Own.q (Own.of_new (n := 1) (sz := 2) hN23 rfl (by decide))) (prs_one hVe) rfl
  refine WL_q rfl (ev_assign rfl) ?_
  refine WL_nil ?_
  refine thenE_n ?_
  refine W_seq ?_
  refine W_block ?_
  refine W_loopC (G := Nat × Option Addr × Nat) [(2, _), (5, _)] ((Subs.c rfl (Subs.c rfl Subs.n))) (fun ⟨i, a, c⟩ => [(6, .slice a ((bfsN (dbl A.ends) V i).2.drop i).length c)]) (fun ⟨i, a, c⟩ w' => Lo (w12.heap.size) w23 w' ∧ i ≤ (bfsN (dbl A.ends) V i).2.length ∧ Blk w' w12.heap.size 52 ((bfsN (dbl A.ends) V i).1.map VI) ∧ OwnQ w16.heap.size w'.heap.size w' 52 2 a ((bfsN (dbl A.ends) V i).2.drop i).length c (pairCells (prs ((bfsN (dbl A.ends) V i).2.drop i)))) (fun g => 2 * A.ends.length - g.1) (0, _, _) ((Subs.c rfl Subs.n)) (⟨Lo.refl (by omega), ⟨by simp, hR16, hOq.up (by omega) (by omega)⟩⟩) ?_
  rintro ⟨i, a, c⟩ wL0 ⟨hRL0, hi', hBo, hOq⟩
  have hzL0 := hRL0.size
  replace hA := hA.lo hRL0 (by omega)
  replace hB2 := hB2.lo hRL0 (by omega)
  replace hB12 := hB12.lo hRL0 (by omega)
  replace hE := hE.lo hRL0 (by omega)
  have hI := bfsN_inv hkD hV0 hV1 i
  have hwl := hI.walk
  have hbl := hI.len
  have hpq := prs_len (xs := ((bfsN (dbl A.ends) V i).2.drop i))
  refine W_seq ?_
  refine W_seq ?_
  refine W_region ?_
  refine WL_q rfl (ev_move rfl) ?_
  refine WL_q rfl (ev_len Try.underlying53 rfl) ?_
  refine WL_q rfl (ev_gtr rfl rfl) ?_
  refine WL_nil ?_
  refine thenE_n ?_
  refine W_cond rfl (fun hg26 => ?_) (fun hg26 => ?_)
  · have hp26 := of_decide_eq_true hg26
    refine W_skip ?_
    refine thenE_n ?_
    refine W_block ?_
    refine W_seq ?_
    refine W_drawE [(0, true), (1, true), (2, true), (3, true), (4, true), (5, true), (6, true), (7, true), (8, true), (9, true)] mixed (by kernel_rfl) rfl (by kernel_rfl) ?_
    intro wd5 hEd5 hzd5
    replace hE := hE.trans hEd5
    replace hRL0 := hRL0.trans hEd5
    replace hA := hA.ext hEd5
    replace hB2 := hB2.ext hEd5
    replace hB12 := hB12.ext hEd5
    replace hBo := hBo.ext hEd5
    replace hOq := hOq.ext hEd5
    have hDd5 := Ext.refl wd5
    refine PW_q rfl rfl (fun wq hq => ev_move rfl) ?_
    have hil : i < (bfsN (dbl A.ends) V i).2.length := by simp at hp26; omega
    have hdi : ((bfsN (dbl A.ends) V i).2.drop i).length = (bfsN (dbl A.ends) V i).2.length - i := List.length_drop ..
    obtain ⟨x, hxe⟩ : ∃ x, (bfsN (dbl A.ends) V i).2[i] = x := ⟨_, rfl⟩
    have hxm := hI.mem _ (List.getElem_mem hil)
    rw [hxe] at hxm
    have hx1 := hxm.1
    have hx2 := hxm.2.1
    rw [dbl_len] at hx2
    obtain ⟨y, hye⟩ : ∃ y, x / 2 = y := ⟨_, rfl⟩
    obtain ⟨p, hpe⟩ : ∃ p, x % 2 = p := ⟨_, rfl⟩
    have hy1 : 0 ≤ y := by omega
    have hy2 : y.toNat < A.ends.length := by omega
    have hty := totL_le hy2
    have hq0 : (prs ((bfsN (dbl A.ends) V i).2.drop i))[0]'(by omega) = (y, p) := prs_at0 hil hxe hye hpe
    have hnl := near_dbl_len hx1 hx2 hye hy2
    refine PW_q rfl rfl (fun wq hq => ev_indexAddr Try.underlying53 sz52 rfl rfl ((ownq_p hOq).isSome (by omega)) (by omega) (by omega)) ?_
    refine PW_q rfl rfl (fun wq hq => ev_indexAddrA Try.underlying52 sz3 rfl rfl (by omega) (by omega)) ?_
    refine PW_q rfl rfl (fun wq hq => ev_load one3 rfl (hq.cell (qfst (ownq_p hOq) (i := 0) (by omega) hq0 (by simp)))) ?_
    refine PW_q rfl rfl (fun wq hq => ev_move rfl) ?_
    refine PW_q rfl rfl (fun wq hq => ev_indexAddr Try.underlying53 sz52 rfl rfl ((ownq_p hOq).isSome (by omega)) (by omega) (by omega)) ?_
    refine PW_q rfl rfl (fun wq hq => ev_indexAddrA Try.underlying52 sz3 rfl rfl (by omega) (by omega)) ?_
    refine PW_q rfl rfl (fun wq hq => ev_load one3 rfl (hq.cell (qsnd (ownq_p hOq) (i := 0) (by omega) hq0 (by simp)))) ?_
    refine PW_q rfl rfl (fun wq hq => ev_assign rfl) ?_
    refine PW_q rfl rfl (fun wq hq => ev_assign rfl) ?_
    refine PW_nil ?_
    refine thenE_n ?_
    refine W_seq ?_
    refine W_region ?_
    refine WL_q rfl (ev_move rfl) ?_
    refine WL_q rfl (ev_slice_lo Try.underlying53 sz52 rfl rfl (by omega) (by simp; omega) (hOq.cap.1)) ?_
    replace hOq := ownqn_to (ownqp_drop1 hOq rfl (by omega)) prs_tail rfl
    refine WL_q rfl (ev_assign rfl) ?_
    refine WL_nil ?_
    refine thenE_n ?_
    refine W_seq ?_
    refine W_region ?_
    refine WL_q rfl (ev_fieldAddr fo31_0 rfl) ?_
    refine WL_q rfl (ev_load one29 rfl (hB2.cell rfl)) ?_
    refine WL_q rfl (ev_move rfl) ?_
    have hl40 : y.toNat < A.ends.length := hy2
    have ht40 := totL_le hl40
    obtain ⟨a40, c40, hc40, hr40⟩ := hA.ends.row hl40
    refine WL_q rfl (ev_indexAddr Try.underlying29 sz55 rfl rfl (hA.ends.isSome (by omega)) (by omega) (by omega)) ?_
    refine WL_q rfl (ev_load one55 rfl (hc40)) ?_
    refine WL_q rfl (ev_len Try.underlying55 rfl) ?_
    refine WL_q rfl (ev_move rfl) ?_
    refine WL_nil ?_
    refine thenE_n ?_
    refine W_block ?_
    refine W_loopC (G := Nat × Option Addr × Nat) [(2, _), (5, _), (7, _), (8, _), (41, _), (42, _)] ((Subs.c rfl (Subs.c rfl (Subs.c rfl (Subs.c rfl (Subs.c rfl (Subs.c rfl Subs.n))))))) (fun ⟨k, a2, c2⟩ => [(6, .slice a2 ((bfsK (dbl A.ends) V i x k).2.drop (i + 1)).length c2), (43, VI (k : Int))]) (fun ⟨k, a2, c2⟩ w' => Lo (w12.heap.size) wd5 w' ∧ k ≤ A.ends[y.toNat].length ∧ Blk w' w12.heap.size 52 ((bfsK (dbl A.ends) V i x k).1.map VI) ∧ OwnQ w16.heap.size w'.heap.size w' 52 2 a2 ((bfsK (dbl A.ends) V i x k).2.drop (i + 1)).length c2 (pairCells (prs ((bfsK (dbl A.ends) V i x k).2.drop (i + 1))))) (fun g => A.ends[y.toNat].length - g.1) (0, _, _) ((Subs.c (lkS rfl (by simp [bfsK_zero]; omega)) (Subs.c (lkI rfl (by omega)) Subs.n))) (⟨Lo.refl (by omega), ⟨by omega, by rw [bfsK_zero]; exact hBo, (ownqn_to hOq (by rw [bfsK_zero]) (by simp [bfsK_zero]; omega)).up (Nat.le_refl _) (by omega)⟩⟩) ?_
    rintro ⟨k, a2, c2⟩ wL2 ⟨hRL2, hk', hBo, hOq⟩
    have hzL2 := hRL2.size
    replace hA := hA.lo hRL2 (by omega)
    replace hB2 := hB2.lo hRL2 (by omega)
    replace hB12 := hB12.lo hRL2 (by omega)
    replace hr40 := hr40.lo hRL2 (by omega)
    replace hE := hE.lo hRL2 (by omega)
    replace hRL0 := hRL0.lo hRL2 (by omega)
    have hJ := bfsK_inv (k := k) hkD hV0 hV1 hil hxe
    have hJl := hJ.len
    have hJw := hJ.walk
    have hpl : i + 1 ≤ (bfsK (dbl A.ends) V i x k).2.length := by obtain ⟨r, hr⟩ := bfsK_pre (ends := (dbl A.ends)) (v := V) (x := x) (i := i) (k := k); rw [hr]; simp; omega
    have hdl : ((bfsK (dbl A.ends) V i x k).2.drop (i + 1)).length = (bfsK (dbl A.ends) V i x k).2.length - (i + 1) := List.length_drop ..
    refine W_seq ?_
    refine W_region ?_
    refine WL_q rfl (ev_lss rfl rfl) ?_
    refine WL_nil ?_
    refine thenE_n ?_
    refine W_seq ?_
    refine W_cond rfl (fun hg44 => ?_) (fun hg44 => ?_)
    · have hp44 := of_decide_eq_true hg44
      refine W_skip ?_
      refine thenE_n ?_
      refine W_seq ?_
      refine W_block ?_
      refine W_seq ?_
      refine W_region ?_
      have hlt2 : k < A.ends[y.toNat].length := by omega
      have hkl : k < (near (dbl A.ends) x).length := by omega
      obtain ⟨he1, he2⟩ := hk.at hy2 hlt2
      obtain ⟨z, hze⟩ : ∃ z, 2 * A.ends[y.toNat][k].1 + (1 - p) = z := ⟨_, rfl⟩
      have hnz := near_dbl_at hx1 hx2 hye hpe hy2 hlt2 hze hkl
      have hz1 : 0 ≤ z := by omega
      have hz2 : z.toNat < 2 * A.ends.length := by omega
      refine WL_q rfl (ev_indexAddr Try.underlying55 sz57 rfl rfl (hr40.isSome (by omega)) (by omega) (by omega)) ?_
      refine WL_q rfl (ev_loads st57 sz57 rfl (hr40.cells (i := k) (by omega)) rfl) ?_
      refine WL_m rfl (ev_alloc zr57) ?_
      rintro _ w10 ⟨rfl, hN10⟩
      have hz10 := hN10.size
      replace hE := hE.trans hN10.ext
      replace hRL0 := hRL0.trans hN10.ext
      replace hRL2 := hRL2.trans hN10.ext
      replace hA := hA.ext hN10.ext
      replace hB2 := hB2.ext hN10.ext
      replace hB12 := hB12.ext hN10.ext
      replace hr40 := hr40.ext hN10.ext
      replace hBo := hBo.ext hN10.ext
      replace hOq := hOq.ext hN10.ext
      have hB10 : Blk w10 _ _ [_, _] := hN10.blk
      refine WL_s (ev_stores sz57 rfl rfl rfl (by simp [Value.oneCell']) hB10 (by simp)) ?_
      rintro _ w9_3 hS9_3
      have hz9_3 := hS9_3.size
      replace hE := hE.sto hS9_3 (by omega)
      replace hRL0 := hRL0.sto hS9_3 (by omega)
      replace hRL2 := hRL2.sto hS9_3 (by omega)
      replace hA := hA.sto hS9_3 (by omega)
      replace hB2 := hB2.sto hS9_3 (by omega)
      replace hB12 := hB12.sto hS9_3 (by omega)
      replace hr40 := hr40.sto hS9_3 (by omega)
      replace hBo := hBo.sto hS9_3 (by omega)
      replace hOq := hOq.sto hS9_3 (by omega)
      replace hB10 : Blk w9_3 _ _ [_, _] := hS9_3.blk
      refine WL_nil ?_
      refine thenE_n ?_
      refine W_seq ?_
      refine W_region ?_
      refine WL_q rfl (ev_move rfl) ?_
      refine WL_q rfl (ev_fieldAddr fo57_0 rfl) ?_
      refine WL_q rfl (ev_load one3 rfl (hB10.cell rfl)) ?_
      refine WL_q rfl (ev_move rfl) ?_
      refine WL_q rfl (ev_sub rfl rfl (by omega)) ?_
      refine WL_q rfl (ev_indexAddr Try.underlying53 sz52 rfl rfl rfl he1 (by omega)) ?_
      refine WL_q rfl (ev_indexAddrA Try.underlying52 sz3 rfl rfl (by omega) (by omega)) ?_
      refine WL_q rfl (ev_load one3 rfl (icell hBo (i := z.toNat) (by omega) (by omega))) ?_
      refine WL_q rfl (ev_lss rfl rfl) ?_
      refine WL_nil ?_
      refine thenE_n ?_
      refine W_cond rfl (fun hg55 => ?_) (fun hg55 => ?_)
      · have hp55 := of_decide_eq_true hg55
        refine W_seq ?_
        refine W_drawK (w12.heap.size) (fun w' => w'.cell? ⟨w12.heap.size, 0 + y.toNat * 2 + p.toNat * 1, none⟩ = some (VI ((bfsK (dbl A.ends) V i x k).1[x.toNat]))) [(0, true), (1, true), (2, true), (3, true), (4, true), (5, true), (6, true), (7, true), (8, true), (9, true), (10, true), (11, true), (12, true), (13, true), (14, false)] mixed (by kernel_rfl) rfl (by kernel_rfl) (fun wd hwd => hwd.cell (icell hBo (by omega) (by omega))) ?_
        intro wd11 hEd11 hzd11
        replace hE := hE.trans hEd11
        replace hRL0 := hRL0.trans hEd11
        replace hRL2 := hRL2.trans hEd11
        replace hA := hA.ext hEd11
        replace hB2 := hB2.ext hEd11
        replace hB12 := hB12.ext hEd11
        replace hr40 := hr40.ext hEd11
        replace hBo := hBo.ext hEd11
        replace hOq := hOq.ext hEd11
        replace hB10 := hB10.ext hEd11
        have hDd11 := KX.refl (w12.heap.size) wd11
        refine PW_q rfl rfl (fun wq hq => ev_move rfl) ?_
        refine PW_q rfl rfl (fun wq hq => ev_fieldAddr fo57_0 rfl) ?_
        refine PW_q rfl rfl (fun wq hq => ev_load one3 rfl (hq.1.cellB (hB10.cell rfl) (by omega))) ?_
        refine PW_q rfl rfl (fun wq hq => ev_move rfl) ?_
        refine PW_q rfl rfl (fun wq hq => ev_sub rfl rfl (by omega)) ?_
        refine PW_q rfl rfl (fun wq hq => ev_move rfl) ?_
        refine PW_q rfl rfl (fun wq hq => ev_move rfl) ?_
        refine PW_q rfl rfl (fun wq hq => ev_move rfl) ?_
        refine PW_q rfl rfl (fun wq hq => ev_indexAddr Try.underlying53 sz52 rfl rfl rfl (by omega) (by omega)) ?_
        refine PW_q rfl rfl (fun wq hq => ev_indexAddrA Try.underlying52 sz3 rfl rfl (by omega) (by omega)) ?_
        refine PW_q rfl rfl (fun wq hq => ev_load one3 rfl hq.2) ?_
        refine PW_q rfl rfl (fun wq hq => ev_add rfl rfl (by have := hJ.rngI (i := x.toNat) (by omega); omega)) ?_
        refine PW_q rfl rfl (fun wq hq => ev_indexAddr Try.underlying53 sz52 rfl rfl rfl he1 (by omega)) ?_
        refine PW_q rfl rfl (fun wq hq => ev_indexAddrA Try.underlying52 sz3 rfl rfl (by omega) (by omega)) ?_
        refine PW_s rfl (ev_store sz3 rfl rfl rfl hBo (by simp; omega)) ?_
        rintro _ w11_14 hS11_14
        have hz11_14 := hS11_14.size
        replace hE := hE.sto hS11_14 (by omega)
        replace hRL0 := hRL0.sto hS11_14 (by omega)
        replace hRL2 := hRL2.sto hS11_14 (by omega)
        replace hDd11 := hDd11.sto hS11_14 (by omega)
        replace hBo := hS11_14.blk
        replace hBo := iset (i := z.toNat) (by omega) hBo
        refine ⟨⟨hDd11, (cell_set_ne hBo (by omega) (by omega) (by omega))⟩, ?_⟩
        replace hA := hA.kx hDd11 (by omega)
        replace hB2 := hB2.kx hDd11 (by omega)
        replace hB12 := hB12.kx hDd11 (by omega)
        replace hr40 := hr40.kx hDd11 (by omega)
        replace hOq := hOq.kx hDd11 (by omega)
        replace hB10 := hB10.kx hDd11 (by omega)
        refine PW_nil ?_
        refine thenE_n ?_
        refine W_region ?_
        refine WL_q rfl (ev_move rfl) ?_
        refine WL_q rfl (ev_fieldAddr fo57_0 rfl) ?_
        refine WL_q rfl (ev_load one3 rfl (hB10.cell rfl)) ?_
        refine WL_q rfl (ev_move rfl) ?_
        refine WL_q rfl (ev_sub rfl rfl (by omega)) ?_
        refine WL_q rfl (ev_buildA2 (m := 0) Try.underlying52 sz3 zr52 rfl rfl rfl rfl) ?_
        refine WL_m rfl (ev_lit1 Try.underlying53 el52 (by decide) (by decide) rfl rfl) ?_
        rintro _ w76 ⟨rfl, hN76⟩
        have hz76 := hN76.size
        replace hE := hE.trans hN76.ext
        replace hRL0 := hRL0.trans hN76.ext
        replace hRL2 := hRL2.trans hN76.ext
        replace hA := hA.ext hN76.ext
        replace hB2 := hB2.ext hN76.ext
        replace hB12 := hB12.ext hN76.ext
        replace hr40 := hr40.ext hN76.ext
        replace hOq := hOq.ext hN76.ext
        replace hB10 := hB10.ext hN76.ext
        replace hBo := hBo.ext hN76.ext
        have hB76 := hN76.blk
        refine WL_m rfl (ev_appendQ Try.underlying53 el52 rfl (by decide) rfl rfl hOq (SAt.of_blk (cs := [_, _]) (ds := []) hB76) rfl (by simp [Value.oneCell']) (by decide) (by omega) (by unfold maxLen; omega) (by omega)) ?_
        rintro _ w77 ⟨a77, c77, rfl, hO77, hK77, hQ77⟩
        have hz77 := hK77.size
        replace hE := hE.rg hK77 (by omega)
        replace hRL0 := hRL0.rg hK77 (by omega)
        replace hRL2 := hRL2.rg hK77 (by omega)
        replace hA := hA.rg hK77 (by omega)
        replace hB2 := hB2.rg hK77 (by omega)
        replace hB12 := hB12.rg hK77 (by omega)
        replace hr40 := hr40.rg hK77 (by omega)
        replace hB10 := hB10.rg hK77 (by omega)
        replace hBo := hBo.rg hK77 (by omega)
        replace hB76 := hB76.rg hK77 (by omega)
        replace hOq := hO77
        refine WL_q rfl (ev_assign rfl) ?_
        refine WL_nil ?_
        refine blockE_n ?_
        refine thenE_n ?_
        refine W_region ?_
        refine WL_q rfl (ev_add rfl rfl (by omega)) ?_
        refine WL_q rfl (ev_move rfl) ?_
        refine WL_nil ?_
        refine thenE_n ?_
        have hsK := bfsK_new hkD hV0 hV1 hil hxe hkl hnz (h2 := by omega) (h3 := by omega) hp55
        exact ⟨(k + 1, a77, c77), (Subs.c rfl (Subs.c rfl (Subs.c rfl (Subs.c rfl (Subs.c rfl (Subs.c rfl Subs.n)))))), (Subs.c (lkS rfl (by rw [hsK]; simp; omega)) (Subs.c (lkI rfl (by omega)) Subs.n)), ⟨hRL2, ⟨by omega, by rw [hsK]; exact hBo, (ownqn_to hOq (by rw [hsK]; exact prs_snoc hpl (by omega) (by omega)) (by rw [hsK]; simp; omega)).up (Nat.le_refl _) (by omega)⟩⟩, by first | omega | (dsimp only; omega)⟩
      · have hp55 := of_decide_eq_false hg55
        refine W_skip ?_
        refine blockE_n ?_
        refine thenE_n ?_
        refine W_region ?_
        refine WL_q rfl (ev_add rfl rfl (by omega)) ?_
        refine WL_q rfl (ev_move rfl) ?_
        refine WL_nil ?_
        refine thenE_n ?_
        have hsK := bfsK_old (v := V) (i := i) hkl hnz (h2 := by omega) hp55
        exact ⟨(k + 1, a2, c2), (Subs.c rfl (Subs.c rfl (Subs.c rfl (Subs.c rfl (Subs.c rfl (Subs.c rfl Subs.n)))))), (Subs.c (lkS rfl (by rw [hsK])) (Subs.c (lkI rfl (by omega)) Subs.n)), ⟨hRL2, ⟨by omega, by rw [hsK]; exact hBo, by rw [hsK]; exact hOq.up (Nat.le_refl _) (by omega)⟩⟩, by first | omega | (dsimp only; omega)⟩
    · have hp44 := of_decide_eq_false hg44
      refine W_exit ?_
      refine thenE_x ?_
      refine thenE_x ?_
      refine blockE_hit ?_
      refine blockE_n ?_
      refine thenE_n ?_
      have hfull := bfsK_full (k := k) (by omega) hil hxe
      rw [hfull] at hBo hOq
      have hI1 := bfsN_inv hkD hV0 hV1 (i + 1)
      exact ⟨(i + 1, a2, c2), (Subs.c rfl (Subs.c rfl Subs.n)), (Subs.c (lkS rfl (by rw [hfull])) Subs.n), ⟨hRL0, ⟨by obtain ⟨r, hr⟩ := bfsK_pre (ends := (dbl A.ends)) (v := V) (x := x) (i := i) (k := k); rw [hfull] at hr; rw [hr]; simp; omega, hBo, hOq.up (Nat.le_refl _) (by omega)⟩⟩, by first | omega | (dsimp only; omega)⟩
  · have hp26 := of_decide_eq_false hg26
    refine W_exit ?_
    refine thenE_x ?_
    refine thenE_x ?_
    refine blockE_hit ?_
    refine thenE_n ?_
    refine W_seq ?_
    refine W_region ?_
    refine WL_q rfl (ev_move rfl) ?_
    refine WL_q rfl (ev_assign rfl) ?_
    refine WL_nil ?_
    refine thenE_n ?_
    refine W_ret ?_
    refine ret1 rfl rfl ?_
    exact ⟨_, rfl, by rw [← bfs_done hkD hV0 hV1 (drop_zero_of hp26) (by omega)]; exact hBo, by omega, hE⟩

end Go.Proofs.Ytnngpblegbjfdaa
