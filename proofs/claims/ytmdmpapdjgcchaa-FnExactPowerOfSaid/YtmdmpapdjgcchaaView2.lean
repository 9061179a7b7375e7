/- Contracts of the classes of views of a depth, of stable classes, of conflicts; the walks of FnExactIsSymmetric, FnExactConflictOf and FnExactLeastDepthOf. -/
import Derived.Test.YtmdmpapdjgcchaaView
import Derived.Test.YtmdmpapdjgcchaaMetric2
namespace Go.Proofs.Ytmdmpapdjgcchaa
open Go Go.RowKit

theorem lmax_of {xs : List Int} {m : Int} (h : m ∈ xs) (hm : ∀ x ∈ xs, x ≤ m) : lmax xs = m := by
  cases xs with
  | nil => simp at h
  | cons y r =>
    have h1 := foldl_max_ge r y
    have h2 := foldl_max_le r y m (hm y (List.mem_cons_self ..)) (fun x hx => hm x (List.mem_cons_of_mem _ hx))
    show r.foldl max y = m
    rcases List.mem_cons.1 h with rfl | h
    · omega
    · have := h1.2 m h; omega
abbrev vw (A : Net) (t : Nat) : List Int := view A.ends A.inputs t
noncomputable abbrev vc (A : Net) (t : Nat) : Nat := vcnt A.ends A.inputs t
theorem vw_len (A : Net) (t : Nat) : (vw A t).length = A.ends.length := view_len _ _ _
theorem vw_eq (A : Net) (t : Nat) : ∃ C, vw A t = classOf (vkeys A.ends A.inputs C) := by cases t <;> exact ⟨_, rfl⟩
theorem vc_eq {A : Net} {t : Nat} {C : Option (List Int)} (h : vw A t = classOf (vkeys A.ends A.inputs C)) : vc A t = (dds (vkeys A.ends A.inputs C)).length := by
  show fc (vw A t) A.ends.length = _
  rw [h]
  have := classOf_fc (ks := vkeys A.ends A.inputs C) (vkeys A.ends A.inputs C).length (Nat.le_refl _)
  rw [List.take_length, vkeys_len] at this
  exact this
theorem vw_rng (A : Net) (t : Nat) : ∀ x ∈ vw A t, 0 ≤ x ∧ x < A.ends.length := by
  obtain ⟨C, h⟩ := vw_eq A t
  intro x hx
  rw [h] at hx
  have h1 := classOf_lt x hx
  have h2 := dds_le (vkeys A.ends A.inputs C)
  rw [vkeys_len] at h2
  omega
theorem vw_top {A : Net} (h0 : 0 < A.ends.length) (t : Nat) : ((vc A t : Int) - 1) ∈ vw A t ∧ ∀ x ∈ vw A t, 0 ≤ x ∧ x ≤ (vc A t : Int) - 1 := by
  obtain ⟨C, h⟩ := vw_eq A t
  rw [vc_eq h, h]
  obtain ⟨m, hm, rfl⟩ := classOf_top (ks := vkeys A.ends A.inputs C) (by rw [vkeys_len]; exact h0)
  exact ⟨hm, fun x hx => by have := classOf_lt x hx; omega⟩
theorem vw_lmax {A : Net} (h0 : 0 < A.ends.length) (t : Nat) : lmax (vw A t) + 1 = (vc A t : Int) := by
  have h := vw_top h0 t
  have : lmax (vw A t) = (vc A t : Int) - 1 := lmax_of h.1 fun x hx => (h.2 x hx).2
  omega
def mmax1 (xs : List Int) : Int := mmax (xs.map (· + 1))
theorem mmax1_take {xs : List Int} {i : Nat} (hi : i < xs.length) : max (mmax1 (xs.take i)) (xs[i] + 1) = mmax1 (xs.take (i + 1)) := by
  unfold mmax1 mmax; rw [List.take_succ_eq_append_getElem hi, List.map_append, List.foldl_append]; rfl
theorem vw_mmax {A : Net} (h0 : 0 < A.ends.length) (t : Nat) : mmax1 (vw A t) = (vc A t : Int) := by
  have h := vw_top h0 t
  have h1 := h.2 _ h.1
  unfold mmax1
  rw [mmax_eq ⟨_, List.mem_map_of_mem (f := (· + 1)) h.1, by omega⟩]
  exact lmax_of (List.mem_map.2 ⟨(vc A t : Int) - 1, h.1, by omega⟩) fun x hx => by obtain ⟨y, hy, rfl⟩ := List.mem_map.1 hx; have := h.2 y hy; omega
/-- At depth t, and no sooner, the number of classes no longer grows. -/
structure StableAt (A : Net) (t : Nat) : Prop where
  here : vc A (t + 1) = vc A t
  first : ∀ s, s < t → vc A (s + 1) ≠ vc A s
  le : t ≤ A.ends.length
theorem StableAt.uniq {A : Net} {s t : Nat} (h : StableAt A s) (k : StableAt A t) : s = t := by
  rcases Nat.lt_trichotomy s t with h1 | h1 | h1
  · exact absurd h.here (k.first s h1)
  · exact h1
  · exact absurd k.here (h.first t h1)
theorem StableAt.fix {A : Net} (hv : VOk A) {t : Nat} (h : StableAt A t) {s : Nat} (hs : t ≤ s) : vw A s = vw A t := by
  have := view_fix (view_stop hv.ends h.here) (s - t)
  rwa [Nat.add_sub_cancel' hs] at this
theorem vc_grow {A : Net} (hv : VOk A) {t : Nat} (h : t ≤ vc A t) (hn : vc A (t + 1) ≠ vc A t) : t + 1 ≤ vc A (t + 1) := by
  have : vc A t ≤ vc A (t + 1) := vcnt_mono hv.ends t
  omega
theorem vc_le (A : Net) (t : Nat) : vc A t ≤ A.ends.length := vcnt_le _ _ _

set_option maxRecDepth 100000 in
theorem viClasses_spec {loA hiA : Nat} (nA : NA) (A : Net) (t : Int) (w : World) (hA : IsNet loA hiA w nA A) (hhiA : hiA ≤ w.heap.size) (hnA : totN A ≤ 1048576) (hv : VOk A) (ht : 0 ≤ t ∧ t ≤ 1000) :
    Fn Try.prog 100 #[netV nA A, VI t] w (fun r w' => ∃ a' c', r = .slice a' A.ends.length c' ∧ Own w.heap.size w' 3 1 a' A.ends.length c' ((vw A t.toNat).map VI) ∧ Ext w w') := by
  have hqA := totL_len A.ends
  have hmA : totL A.ends + A.ids.length + A.inputs.length ≤ 1048576 := hnA
  have hpos := hv.pos
  have hE := Ext.refl w
  refine Fn_of Try.func100 rfl rfl (by kernel_rfl) rfl ?_
  refine W_seq ?_
  refine W_region ?_
  refine WL_m rfl (ev_box rfl) ?_
  rintro _ w2 ⟨rfl, hN2⟩
  have hz2 := hN2.size
  replace hE := hE.trans hN2.ext
  replace hA := hA.ext hN2.ext
  have hB2 : Blk w2 _ _ [_, _, _] := hN2.blk
  refine WL_q rfl (ev_assign rfl) ?_
  refine WL_nil ?_
  refine thenE_n ?_
  refine W_seq ?_
  refine W_region ?_
  refine WL_q rfl (ev_loads st29 sz29 rfl (cellsB hB2) rfl) ?_
  refine WL_m rfl (ev_call rfl (viStep_nil _ A _ hA (by omega) (by omega) hv)) ?_
  rintro _ w7 ⟨a7, c7, rfl, hO7, hE7⟩
  have hz7 := hE7.size
  replace hE := hE.trans hE7
  replace hA := hA.ext hE7
  replace hB2 := hB2.ext hE7
  refine WL_q rfl (ev_assign rfl) ?_
  refine WL_nil ?_
  refine thenE_n ?_
  refine W_seq ?_
  refine W_block ?_
  refine W_loopC (G := Nat × Option Addr × Nat) [(2, _)] ((Subs.c rfl Subs.n)) (fun ⟨i, a, c⟩ => [(1, VI (t - (i : Int))), (5, .slice a A.ends.length c)]) (fun ⟨i, a, c⟩ w' => Ext w7 w' ∧ i ≤ t.toNat ∧ OwnH w2.heap.size w'.heap.size 0 0 w' 3 1 a A.ends.length c ((vw A i).map VI)) (fun g => t.toNat - g.1) (0, _, _) ((Subs.c (lkI rfl (by omega)) (Subs.c rfl Subs.n))) (⟨Ext.refl _, ⟨by omega, hO7.h.up (by omega) (by omega)⟩⟩) ?_
  rintro ⟨i, a, c⟩ wL0 ⟨hRL0, hi', hO⟩
  have hzL0 := hRL0.size
  replace hE := hE.trans hRL0
  replace hA := hA.ext hRL0
  replace hB2 := hB2.ext hRL0
  replace hO7 := hO7.ext hRL0
  refine W_seq ?_
  refine W_seq ?_
  refine W_region ?_
  refine WL_q rfl (ev_move rfl) ?_
  refine WL_q rfl (ev_gtr rfl rfl) ?_
  refine WL_nil ?_
  refine thenE_n ?_
  refine W_cond rfl (fun hg9 => ?_) (fun hg9 => ?_)
  · have hp9 := of_decide_eq_true hg9
    refine W_skip ?_
    refine thenE_n ?_
    refine W_seq ?_
    refine W_block ?_
    refine W_region ?_
    refine WL_q rfl (ev_loads st29 sz29 rfl (cellsB hB2) rfl) ?_
    refine WL_q rfl (ev_move rfl) ?_
    refine WL_m rfl (ev_call rfl (viStep_some _ A _ _ (vw A i) _ hA (by omega) (by omega) hv (ownt_is hO) (by omega) (vw_len A _))) ?_
    rintro _ w14 ⟨a14, c14, rfl, hO14, hE14⟩
    have hz14 := hE14.size
    replace hE := hE.trans hE14
    replace hRL0 := hRL0.trans hE14
    replace hA := hA.ext hE14
    replace hB2 := hB2.ext hE14
    replace hO := hO.ext hE14
    refine WL_q rfl (ev_assign rfl) ?_
    refine WL_nil ?_
    refine blockE_n ?_
    refine thenE_n ?_
    refine W_region ?_
    refine WL_q rfl (ev_move rfl) ?_
    refine WL_q rfl (ev_sub rfl rfl (by omega)) ?_
    refine WL_q rfl (ev_assign rfl) ?_
    refine WL_nil ?_
    refine thenE_n ?_
    exact ⟨(i + 1, a14, c14), (Subs.c rfl Subs.n), (Subs.c (lkI rfl (by omega)) (Subs.c rfl Subs.n)), ⟨hRL0, ⟨by omega, hO14.h.up (by omega) (by omega)⟩⟩, by first | omega | (dsimp only; omega)⟩
  · have hp9 := of_decide_eq_false hg9
    refine W_exit ?_
    refine thenE_x ?_
    refine thenE_x ?_
    refine blockE_hit ?_
    refine thenE_n ?_
    refine W_seq ?_
    refine W_region ?_
    refine WL_q rfl (ev_move rfl) ?_
    refine WL_q rfl (ev_assign rfl) ?_
    refine WL_nil ?_
    refine thenE_n ?_
    refine W_ret ?_
    refine ret1 rfl rfl ?_
    have hi9 : i = t.toNat := by omega
    subst hi9; exact ⟨_, _, rfl, hO.1.mono (by omega), hE⟩

theorem lmax_ge {xs : List Int} (h0 : 0 < xs.length) (h : ∀ x ∈ xs, 0 ≤ x) : 0 ≤ lmax xs := by
  cases xs with
  | nil => simp at h0
  | cons y r => have := (foldl_max_ge r y).1; have := h y (List.mem_cons_self ..); show 0 ≤ r.foldl max y; omega

set_option maxRecDepth 100000 in
theorem classCount_spec {lo hi n : Nat} (a : Option Addr) (c : Nat) (xs : List Int) (w : World) (hl : xs.length = n) (hx : Ints lo hi w a c xs) (hm : n ≤ 1048576) (h0 : 0 < n) (hr : ∀ x ∈ xs, 0 ≤ x ∧ x ≤ 1048576) :
    Fn Try.prog 80 #[.slice a n c] w (fun v w' => v = VI (lmax xs + 1) ∧ Ext w w') := by
  subst hl
  have hle := lmax_le (m := 1048576) (by omega) (fun x hx => (hr x hx).2)
  have hge := lmax_ge h0 (fun x hx => (hr x hx).1)
  have hE := Ext.refl w
  refine Fn_of Try.func80 rfl rfl (by kernel_rfl) rfl ?_
  refine W_seq ?_
  refine W_region ?_
  refine WL_q rfl (ev_assign rfl) ?_
  refine WL_nil ?_
  refine thenE_n ?_
  refine W_seq ?_
  refine W_region ?_
  refine WL_q rfl (ev_move rfl) ?_
  refine WL_m rfl (ev_call rfl (Max_spec _ _ xs _ hx (by omega) (by omega))) ?_
  rintro _ w4 ⟨rfl, hE4⟩
  have hz4 := hE4.size
  replace hE := hE.trans hE4
  replace hx := hx.ext hE4
  refine WL_q rfl (ev_add rfl rfl (by omega)) ?_
  refine WL_q rfl (ev_assign rfl) ?_
  refine WL_nil ?_
  refine thenE_n ?_
  refine W_ret ?_
  refine ret1 rfl rfl ?_
  exact ⟨rfl, hE⟩

set_option maxRecDepth 100000 in
theorem viMany_spec {lo hi n : Nat} (a : Option Addr) (c : Nat) (xs : List Int) (w : World) (hl : xs.length = n) (hx : Ints lo hi w a c xs) (hm : n ≤ 1048576) (hr : ∀ x ∈ xs, 0 ≤ x ∧ x ≤ 1048576) :
    Fn Try.prog 37 #[.slice a n c] w (fun v w' => v = VI (mmax1 xs) ∧ Ext w w') := by
  subst hl
  have hE := Ext.refl w
  refine Fn_of Try.func37 rfl rfl (by kernel_rfl) rfl ?_
  refine W_seq ?_
  refine W_region ?_
  refine WL_q rfl (ev_assign rfl) ?_
  refine WL_nil ?_
  refine thenE_n ?_
  refine W_seq ?_
  refine W_region ?_
  refine WL_q rfl (ev_assign rfl) ?_
  refine WL_nil ?_
  refine thenE_n ?_
  refine W_seq ?_
  refine W_seq ?_
  refine W_region ?_
  refine WL_q rfl (ev_move rfl) ?_
  refine WL_q rfl (ev_len Try.underlying23 rfl) ?_
  refine WL_q rfl (ev_move rfl) ?_
  refine WL_nil ?_
  refine thenE_n ?_
  refine W_block ?_
  refine W_loopC (G := Nat) [(6, _), (7, _)] ((Subs.c rfl (Subs.c rfl Subs.n))) (fun i => [(3, VI (mmax1 (xs.take i))), (8, VI (i : Int))]) (fun i w' => Ext w w' ∧ i ≤ xs.length) (fun i => xs.length - i) 0 ((Subs.c rfl (Subs.c (lkI rfl (by omega)) Subs.n))) (⟨Ext.refl _, by omega⟩) ?_
  rintro i wL0 ⟨hRL0, hi'⟩
  have hzL0 := hRL0.size
  replace hE := hE.trans hRL0
  replace hx := hx.ext hRL0
  refine W_seq ?_
  refine W_region ?_
  refine WL_q rfl (ev_lss rfl rfl) ?_
  refine WL_nil ?_
  refine thenE_n ?_
  refine W_seq ?_
  refine W_cond rfl (fun hg9 => ?_) (fun hg9 => ?_)
  · have hp9 := of_decide_eq_true hg9
    refine W_skip ?_
    refine thenE_n ?_
    refine W_seq ?_
    refine W_block ?_
    refine W_seq ?_
    refine W_region ?_
    have hx9 := hr _ (List.getElem_mem (show i < xs.length by omega))
    refine WL_q rfl (ev_indexAddr Try.underlying23 sz3 rfl rfl (hx.isSome (by omega)) (by omega) (by omega)) ?_
    refine WL_q rfl (ev_load one3 rfl (hx.cell (i := i) (by omega))) ?_
    refine WL_q rfl (ev_assign rfl) ?_
    refine WL_nil ?_
    refine thenE_n ?_
    refine W_region ?_
    refine WL_q rfl (ev_move rfl) ?_
    refine WL_q rfl (ev_move rfl) ?_
    refine WL_q rfl (ev_add rfl rfl (by omega)) ?_
    refine WL_m rfl (ev_call rfl (l1Most_spec _ _ _)) ?_
    rintro _ w15 ⟨rfl, hE15⟩
    have hz15 := hE15.size
    replace hE := hE.trans hE15
    replace hRL0 := hRL0.trans hE15
    replace hx := hx.ext hE15
    refine WL_q rfl (ev_assign rfl) ?_
    refine WL_nil ?_
    refine blockE_n ?_
    refine thenE_n ?_
    refine W_region ?_
    refine WL_q rfl (ev_add rfl rfl (by omega)) ?_
    refine WL_q rfl (ev_move rfl) ?_
    refine WL_nil ?_
    refine thenE_n ?_
    exact ⟨i + 1, (Subs.c rfl (Subs.c rfl Subs.n)), (Subs.c (lkI rfl (mmax1_take (by omega))) (Subs.c (lkI rfl (by omega)) Subs.n)), ⟨hRL0, by omega⟩, by first | omega | (dsimp only; omega)⟩
  · have hp9 := of_decide_eq_false hg9
    refine W_exit ?_
    refine thenE_x ?_
    refine thenE_x ?_
    refine blockE_hit ?_
    refine thenE_n ?_
    refine W_seq ?_
    refine W_region ?_
    refine WL_q rfl (ev_move rfl) ?_
    refine WL_q rfl (ev_assign rfl) ?_
    refine WL_nil ?_
    refine thenE_n ?_
    refine W_ret ?_
    refine ret1 rfl rfl ?_
    have hi9 : i = xs.length := by omega
    subst hi9; exact ⟨vi (by rw [List.take_length]), hE⟩

set_option maxRecDepth 100000 in
theorem stable_spec {loA hiA : Nat} (nA : NA) (A : Net) (w : World) (hA : IsNet loA hiA w nA A) (hhiA : hiA ≤ w.heap.size) (hnA : totN A ≤ 1048576) (hv : VOk A) :
    Fn Try.prog 86 #[netV nA A] w (fun r w' => ∃ T a' c', r = .tuple #[VI ((T : Nat) : Int), .slice a' A.ends.length c'] ∧ StableAt A T ∧ Own w.heap.size w' 3 1 a' A.ends.length c' ((vw A T).map VI) ∧ Ext w w') := by
  have hqA := totL_len A.ends
  have hmA : totL A.ends + A.ids.length + A.inputs.length ≤ 1048576 := hnA
  have hpos := hv.pos
  have hE := Ext.refl w
  refine Fn_of Try.func86 rfl rfl (by kernel_rfl) rfl ?_
  refine W_seq ?_
  refine W_region ?_
  refine WL_m rfl (ev_box rfl) ?_
  rintro _ w1 ⟨rfl, hN1⟩
  have hz1 := hN1.size
  replace hE := hE.trans hN1.ext
  replace hA := hA.ext hN1.ext
  have hB1 : Blk w1 _ _ [_, _, _] := hN1.blk
  refine WL_q rfl (ev_assign rfl) ?_
  refine WL_q rfl (ev_assign rfl) ?_
  refine WL_nil ?_
  refine thenE_n ?_
  refine W_seq ?_
  refine W_region ?_
  refine WL_q rfl (ev_loads st29 sz29 rfl (cellsB hB1) rfl) ?_
  refine WL_m rfl (ev_call rfl (viewClasses_nil _ A _ hA (by omega) (by omega) hv)) ?_
  rintro _ w8 ⟨a8, c8, rfl, hO8, hE8⟩
  have hz8 := hE8.size
  replace hE := hE.trans hE8
  replace hA := hA.ext hE8
  replace hB1 := hB1.ext hE8
  refine WL_q rfl (ev_assign rfl) ?_
  refine WL_nil ?_
  refine thenE_n ?_
  refine W_seq ?_
  refine W_region ?_
  refine WL_q rfl (ev_assign rfl) ?_
  refine WL_nil ?_
  refine thenE_n ?_
  refine W_block ?_
  refine W_loopC (G := Nat × Option Addr × Nat) [(1, _)] ((Subs.c rfl Subs.n)) (fun ⟨i, a, c⟩ => [(4, .slice a A.ends.length c), (5, VI (i : Int))]) (fun ⟨i, a, c⟩ w' => Ext w8 w' ∧ (i ≤ vc A i ∧ ∀ s, s < i → vc A (s + 1) ≠ vc A s) ∧ OwnH w1.heap.size w'.heap.size 0 0 w' 3 1 a A.ends.length c ((vw A i).map VI)) (fun g => A.ends.length + 1 - g.1) (0, _, _) ((Subs.c rfl (Subs.c rfl Subs.n))) (⟨Ext.refl _, ⟨⟨Nat.zero_le _, fun s hs => absurd hs (Nat.not_lt_zero _)⟩, hO8.h.up (by omega) (by omega)⟩⟩) ?_
  rintro ⟨i, a, c⟩ wL0 ⟨hRL0, ⟨hi', hJ⟩, hO⟩
  have hzL0 := hRL0.size
  replace hE := hE.trans hRL0
  replace hA := hA.ext hRL0
  replace hB1 := hB1.ext hRL0
  replace hO8 := hO8.ext hRL0
  have hvl := vc_le A i
  have hvm := vw_lmax hpos.1 i
  have hvm1 := vw_lmax hpos.1 (i + 1)
  refine W_seq ?_
  refine W_block ?_
  refine W_seq ?_
  refine W_region ?_
  refine WL_q rfl (ev_loads st29 sz29 rfl (cellsB hB1) rfl) ?_
  refine WL_q rfl (ev_move rfl) ?_
  refine WL_m rfl (ev_call rfl (viewClasses_some _ A _ _ (vw A i) _ hA (by omega) (by omega) hv (ownt_is hO) (by omega) (vw_len A _) (fun x hx => by have := vw_rng A _ x hx; omega))) ?_
  rintro _ w13 ⟨a13, c13, rfl, hO13, hE13⟩
  have hz13 := hE13.size
  replace hE := hE.trans hE13
  replace hRL0 := hRL0.trans hE13
  replace hA := hA.ext hE13
  replace hB1 := hB1.ext hE13
  replace hO := hO.ext hE13
  refine WL_q rfl (ev_assign rfl) ?_
  refine WL_nil ?_
  refine thenE_n ?_
  refine W_seq ?_
  refine W_seq ?_
  refine W_region ?_
  refine WL_q rfl (ev_move rfl) ?_
  refine WL_m rfl (ev_call rfl (classCount_spec _ _ (vw A (i + 1)) _ (vw_len A _) (own_i hO13) (by omega) (by omega) (fun x hx => by have := vw_rng A _ x hx; omega))) ?_
  rintro _ w15 ⟨rfl, hE15⟩
  have hz15 := hE15.size
  replace hE := hE.trans hE15
  replace hRL0 := hRL0.trans hE15
  replace hA := hA.ext hE15
  replace hB1 := hB1.ext hE15
  replace hO := hO.ext hE15
  replace hO13 := hO13.ext hE15
  refine WL_q rfl (ev_move rfl) ?_
  refine WL_m rfl (ev_call rfl (classCount_spec _ _ (vw A i) _ (vw_len A _) (own_i hO.1) (by omega) (by omega) (fun x hx => by have := vw_rng A _ x hx; omega))) ?_
  rintro _ w17 ⟨rfl, hE17⟩
  have hz17 := hE17.size
  replace hE := hE.trans hE17
  replace hRL0 := hRL0.trans hE17
  replace hA := hA.ext hE17
  replace hB1 := hB1.ext hE17
  replace hO := hO.ext hE17
  replace hO13 := hO13.ext hE17
  refine WL_q rfl (ev_eql rfl rfl) ?_
  refine WL_nil ?_
  refine thenE_n ?_
  refine W_cond rfl (fun hg18 => ?_) (fun hg18 => ?_)
  · have hp18 := of_decide_eq_true hg18
    refine W_seq ?_
    refine W_region ?_
    refine WL_q rfl (ev_move rfl) ?_
    refine WL_q rfl (ev_move rfl) ?_
    refine WL_q rfl (ev_assign rfl) ?_
    refine WL_q rfl (ev_assign rfl) ?_
    refine WL_nil ?_
    refine thenE_n ?_
    refine W_ret ?_
    refine thenE_r ?_
    refine blockE_r ?_
    refine thenE_r ?_
    refine thenE_r ?_
    refine blockE_r ?_
    refine ret2 rfl rfl rfl ?_
    exact ⟨i, _, _, rfl, ⟨by omega, hJ, by omega⟩, hO.1.mono (by omega), hE⟩
  · have hp18 := of_decide_eq_false hg18
    refine W_skip ?_
    refine thenE_n ?_
    refine W_region ?_
    refine WL_q rfl (ev_move rfl) ?_
    refine WL_q rfl (ev_assign rfl) ?_
    refine WL_nil ?_
    refine blockE_n ?_
    refine thenE_n ?_
    refine W_region ?_
    refine WL_q rfl (ev_move rfl) ?_
    refine WL_q rfl (ev_add rfl rfl (by omega)) ?_
    refine WL_q rfl (ev_assign rfl) ?_
    refine WL_nil ?_
    refine thenE_n ?_
    have hne : vc A (i + 1) ≠ vc A i := by omega
    have hgr := vc_grow hv hi' hne
    exact ⟨(i + 1, a13, c13), (Subs.c rfl Subs.n), (Subs.c rfl (Subs.c (lkI rfl (by omega)) Subs.n)), ⟨hRL0, ⟨⟨hgr, fun s hs => by rcases Nat.lt_succ_iff_lt_or_eq.1 hs with h | h; exact hJ s h; subst h; exact hne⟩, hO13.h.up (by omega) (by omega)⟩⟩, by first | omega | (dsimp only; omega)⟩

set_option maxRecDepth 100000 in
theorem viStable_spec {loA hiA : Nat} (nA : NA) (A : Net) (w : World) (hA : IsNet loA hiA w nA A) (hhiA : hiA ≤ w.heap.size) (hnA : totN A ≤ 1048576) (hv : VOk A) :
    Fn Try.prog 101 #[netV nA A] w (fun r w' => ∃ T, r = VI ((T : Nat) : Int) ∧ StableAt A T ∧ Ext w w') := by
  have hqA := totL_len A.ends
  have hmA : totL A.ends + A.ids.length + A.inputs.length ≤ 1048576 := hnA
  have hpos := hv.pos
  have hE := Ext.refl w
  refine Fn_of Try.func101 rfl rfl (by kernel_rfl) rfl ?_
  refine W_seq ?_
  refine W_region ?_
  refine WL_m rfl (ev_box rfl) ?_
  rintro _ w1 ⟨rfl, hN1⟩
  have hz1 := hN1.size
  replace hE := hE.trans hN1.ext
  replace hA := hA.ext hN1.ext
  have hB1 : Blk w1 _ _ [_, _, _] := hN1.blk
  refine WL_q rfl (ev_assign rfl) ?_
  refine WL_nil ?_
  refine thenE_n ?_
  refine W_seq ?_
  refine W_region ?_
  refine WL_q rfl (ev_loads st29 sz29 rfl (cellsB hB1) rfl) ?_
  refine WL_m rfl (ev_call rfl (viClasses_spec _ A _ _ hA (by omega) (by omega) (by assumption) (by omega))) ?_
  rintro _ w7 ⟨a7, c7, rfl, hO7, hE7⟩
  have hz7 := hE7.size
  replace hE := hE.trans hE7
  replace hA := hA.ext hE7
  replace hB1 := hB1.ext hE7
  replace hO7 : Own w1.heap.size w7 3 1 a7 A.ends.length c7 ((vw A 0).map VI) := hO7
  refine WL_q rfl (ev_assign rfl) ?_
  refine WL_nil ?_
  refine thenE_n ?_
  refine W_seq ?_
  refine W_region ?_
  refine WL_q rfl (ev_assign rfl) ?_
  refine WL_nil ?_
  refine thenE_n ?_
  refine W_block ?_
  refine W_loopC (G := Nat × Option Addr × Nat) [(1, _)] ((Subs.c rfl Subs.n)) (fun ⟨i, a, c⟩ => [(3, .slice a A.ends.length c), (4, VI (i : Int))]) (fun ⟨i, a, c⟩ w' => Ext w7 w' ∧ (i ≤ vc A i ∧ ∀ s, s < i → vc A (s + 1) ≠ vc A s) ∧ OwnH w1.heap.size w'.heap.size 0 0 w' 3 1 a A.ends.length c ((vw A i).map VI)) (fun g => A.ends.length + 1 - g.1) (0, _, _) ((Subs.c rfl (Subs.c rfl Subs.n))) (⟨Ext.refl _, ⟨⟨Nat.zero_le _, fun s hs => absurd hs (Nat.not_lt_zero _)⟩, hO7.h.up (by omega) (by omega)⟩⟩) ?_
  rintro ⟨i, a, c⟩ wL0 ⟨hRL0, ⟨hi', hJ⟩, hO⟩
  have hzL0 := hRL0.size
  replace hE := hE.trans hRL0
  replace hA := hA.ext hRL0
  replace hB1 := hB1.ext hRL0
  replace hO7 := hO7.ext hRL0
  have hvl := vc_le A i
  have hvm := vw_mmax hpos.1 i
  have hvm1 := vw_mmax hpos.1 (i + 1)
  refine W_seq ?_
  refine W_block ?_
  refine W_seq ?_
  refine W_region ?_
  refine WL_q rfl (ev_loads st29 sz29 rfl (cellsB hB1) rfl) ?_
  refine WL_q rfl (ev_move rfl) ?_
  refine WL_m rfl (ev_call rfl (viStep_some _ A _ _ (vw A i) _ hA (by omega) (by omega) hv (ownt_is hO) (by omega) (vw_len A _))) ?_
  rintro _ w12 ⟨a12, c12, rfl, hO12, hE12⟩
  have hz12 := hE12.size
  replace hE := hE.trans hE12
  replace hRL0 := hRL0.trans hE12
  replace hA := hA.ext hE12
  replace hB1 := hB1.ext hE12
  replace hO := hO.ext hE12
  refine WL_q rfl (ev_assign rfl) ?_
  refine WL_nil ?_
  refine thenE_n ?_
  refine W_seq ?_
  refine W_seq ?_
  refine W_region ?_
  refine WL_q rfl (ev_move rfl) ?_
  refine WL_m rfl (ev_call rfl (viMany_spec _ _ (vw A (i + 1)) _ (vw_len A _) (own_i hO12) (by omega) (fun x hx => by have := vw_rng A _ x hx; omega))) ?_
  rintro _ w14 ⟨rfl, hE14⟩
  have hz14 := hE14.size
  replace hE := hE.trans hE14
  replace hRL0 := hRL0.trans hE14
  replace hA := hA.ext hE14
  replace hB1 := hB1.ext hE14
  replace hO := hO.ext hE14
  replace hO12 := hO12.ext hE14
  refine WL_q rfl (ev_move rfl) ?_
  refine WL_m rfl (ev_call rfl (viMany_spec _ _ (vw A i) _ (vw_len A _) (own_i hO.1) (by omega) (fun x hx => by have := vw_rng A _ x hx; omega))) ?_
  rintro _ w16 ⟨rfl, hE16⟩
  have hz16 := hE16.size
  replace hE := hE.trans hE16
  replace hRL0 := hRL0.trans hE16
  replace hA := hA.ext hE16
  replace hB1 := hB1.ext hE16
  replace hO := hO.ext hE16
  replace hO12 := hO12.ext hE16
  refine WL_q rfl (ev_eql rfl rfl) ?_
  refine WL_nil ?_
  refine thenE_n ?_
  refine W_cond rfl (fun hg17 => ?_) (fun hg17 => ?_)
  · have hp17 := of_decide_eq_true hg17
    refine W_seq ?_
    refine W_region ?_
    refine WL_q rfl (ev_move rfl) ?_
    refine WL_q rfl (ev_assign rfl) ?_
    refine WL_nil ?_
    refine thenE_n ?_
    refine W_ret ?_
    refine thenE_r ?_
    refine blockE_r ?_
    refine thenE_r ?_
    refine thenE_r ?_
    refine blockE_r ?_
    refine ret1 rfl rfl ?_
    exact ⟨i, rfl, ⟨by omega, hJ, by omega⟩, hE⟩
  · have hp17 := of_decide_eq_false hg17
    refine W_skip ?_
    refine thenE_n ?_
    refine W_region ?_
    refine WL_q rfl (ev_move rfl) ?_
    refine WL_q rfl (ev_assign rfl) ?_
    refine WL_nil ?_
    refine blockE_n ?_
    refine thenE_n ?_
    refine W_region ?_
    refine WL_q rfl (ev_move rfl) ?_
    refine WL_q rfl (ev_add rfl rfl (by omega)) ?_
    refine WL_q rfl (ev_assign rfl) ?_
    refine WL_nil ?_
    refine thenE_n ?_
    have hne : vc A (i + 1) ≠ vc A i := by omega
    have hgr := vc_grow hv hi' hne
    exact ⟨(i + 1, a12, c12), (Subs.c rfl Subs.n), (Subs.c rfl (Subs.c (lkI rfl (by omega)) Subs.n)), ⟨hRL0, ⟨⟨hgr, fun s hs => by rcases Nat.lt_succ_iff_lt_or_eq.1 hs with h | h; exact hJ s h; subst h; exact hne⟩, hO12.h.up (by omega) (by omega)⟩⟩, by first | omega | (dsimp only; omega)⟩

set_option maxRecDepth 100000 in
theorem viTwins_spec {loA hiA : Nat} (nA : NA) (A : Net) (w : World) (hA : IsNet loA hiA w nA A) (hhiA : hiA ≤ w.heap.size) (hnA : totN A ≤ 1048576) (hv : VOk A) :
    Fn Try.prog 85 #[netV nA A] w (fun r w' => ∃ T a' c', r = .slice a' A.ends.length c' ∧ StableAt A T ∧ Own w.heap.size w' 3 1 a' A.ends.length c' ((vw A T).map VI) ∧ Ext w w') := by
  have hqA := totL_len A.ends
  have hmA : totL A.ends + A.ids.length + A.inputs.length ≤ 1048576 := hnA
  have hpos := hv.pos
  have hE := Ext.refl w
  refine Fn_of Try.func85 rfl rfl (by kernel_rfl) rfl ?_
  refine W_seq ?_
  refine W_region ?_
  refine WL_m rfl (ev_box rfl) ?_
  rintro _ w1 ⟨rfl, hN1⟩
  have hz1 := hN1.size
  replace hE := hE.trans hN1.ext
  replace hA := hA.ext hN1.ext
  have hB1 : Blk w1 _ _ [_, _, _] := hN1.blk
  refine WL_q rfl (ev_assign rfl) ?_
  refine WL_nil ?_
  refine thenE_n ?_
  refine W_seq ?_
  refine W_drawE [(0, true), (1, true), (2, false), (3, false), (4, true)] mixed (by kernel_rfl) rfl (by kernel_rfl) ?_
  intro wd1 hEd1 hzd1
  replace hE := hE.trans hEd1
  replace hA := hA.ext hEd1
  replace hB1 := hB1.ext hEd1
  have hDd1 := Ext.refl wd1
  refine PW_q rfl rfl (fun wq hq => ev_loads st29 sz29 rfl (cellsB (hq.blk hB1)) rfl) ?_
  refine PW_q rfl rfl (fun wq hq => ev_loads st29 sz29 rfl (cellsB (hq.blk hB1)) rfl) ?_
  refine PW_m rfl rfl (ev_call rfl (viStable_spec _ A _ hA (by omega) (by omega) (by assumption))) ?_
  rintro _ w5 ⟨T5, rfl, hs5, hE5⟩
  have hz5 := hE5.size
  replace hE := hE.trans hE5
  replace hDd1 := hDd1.trans hE5
  refine ⟨hDd1, ?_⟩
  have hA_3 := hA.ext hDd1
  have hB1_3 := hB1.ext hDd1
  have hsl := hs5.le
  refine PW_m rfl rfl (ev_call rfl (viClasses_spec _ A _ _ hA_3 (by omega) (by omega) (by assumption) (by omega))) ?_
  rintro _ w6 ⟨a6, c6, rfl, hO6, hE6⟩
  have hz6 := hE6.size
  replace hE := hE.trans hE6
  replace hDd1 := hDd1.trans hE6
  refine ⟨hDd1, ?_⟩
  refine PW_q rfl rfl (fun wq hq => ev_assign rfl) ?_
  replace hA := hA.ext hDd1
  replace hB1 := hB1.ext hDd1
  refine PW_nil ?_
  refine thenE_n ?_
  refine W_ret ?_
  refine ret1 rfl rfl ?_
  exact ⟨T5, _, _, rfl, hs5, by simpa using hO6.mono (by omega), hE⟩

/-- If it went well, the slice is owned and holds the classes of twins. -/
def OkTw (A : Net) (q : Bool) (lo : Nat) (w : World) (E : TypeId) (a : Option Addr) (n c : Nat) : Prop := q = true → n = A.ends.length ∧ ∃ T, StableAt A T ∧ Own lo w E 1 a n c ((vw A T).map VI)
theorem OkTw.ext {A : Net} {q : Bool} {lo : Nat} {w w' : World} {E : TypeId} {a : Option Addr} {n c : Nat} (h : OkTw A q lo w E a n c) (k : Ext w w') : OkTw A q lo w' E a n c := fun hq => by
  obtain ⟨h1, T, h2, h3⟩ := h hq; exact ⟨h1, T, h2, h3.ext k⟩
def Sym (A : Net) : Prop := ∃ T, StableAt A T ∧ vc A T = 1
theorem sym_iff {A : Net} {T : Nat} (h : StableAt A T) : Sym A ↔ vc A T = 1 := ⟨fun ⟨S, h1, h2⟩ => by rw [h.uniq h1]; exact h2, fun e => ⟨T, h, e⟩⟩

set_option maxRecDepth 100000 in
theorem TwinClasses_spec {loA hiA : Nat} (nA : NA) (A : Net) (w : World) (hA : IsNet loA hiA w nA A) (hhiA : hiA ≤ w.heap.size) (hnA : totN A ≤ 1048576) :
    Fn Try.prog 49 #[netV nA A] w (fun r w' => ∃ a' n' c' q, r = .tuple #[.slice a' n' c', VB q] ∧ (q = true ↔ NOk A) ∧ OkTw A q w.heap.size w' 3 a' n' c' ∧ Ext w w') := by
  have hqA := totL_len A.ends
  have hmA : totL A.ends + A.ids.length + A.inputs.length ≤ 1048576 := hnA
  have hE := Ext.refl w
  refine Fn_of Try.func49 rfl rfl (by kernel_rfl) rfl ?_
  refine W_seq ?_
  refine W_region ?_
  refine WL_m rfl (ev_box rfl) ?_
  rintro _ w1 ⟨rfl, hN1⟩
  have hz1 := hN1.size
  replace hE := hE.trans hN1.ext
  replace hA := hA.ext hN1.ext
  have hB1 : Blk w1 _ _ [_, _, _] := hN1.blk
  refine WL_q rfl (ev_assign rfl) ?_
  refine WL_q rfl (ev_assign rfl) ?_
  refine WL_nil ?_
  refine thenE_n ?_
  refine W_seq ?_
  refine W_seq ?_
  refine W_region ?_
  refine WL_q rfl (ev_loads st29 sz29 rfl (cellsB hB1) rfl) ?_
  refine WL_m rfl (ev_call rfl (IsNetwork_spec _ A _ hA (by omega) (by omega))) ?_
  rintro _ w7 ⟨b7, rfl, hb7, hE7⟩
  have hz7 := hE7.size
  replace hE := hE.trans hE7
  replace hA := hA.ext hE7
  replace hB1 := hB1.ext hE7
  refine WL_q rfl (ev_not rfl) ?_
  refine WL_nil ?_
  refine thenE_n ?_
  refine W_cond rfl (fun hg8 => ?_) (fun hg8 => ?_)
  · have hg7 := not_true hg8
    have hp7 := ttN hb7 hg7
    refine W_seq ?_
    refine W_region ?_
    refine WL_q rfl (ev_assign rfl) ?_
    refine WL_q rfl (ev_assign rfl) ?_
    refine WL_nil ?_
    refine thenE_n ?_
    refine W_ret ?_
    refine thenE_r ?_
    refine ret2 rfl rfl rfl ?_
    first | (exact ⟨_, _, _, false, rfl, ffI hp7, fun h => (tfX h.symm).elim, hE⟩) | (exact ⟨_, _, _, true, rfl, ttI hp7, fun _ => ⟨rfl, T11, hs11, hO11.mono (by omega)⟩, hE⟩)
  · have hg7 := not_false hg8
    have hp7 := hb7.1 hg7
    refine W_skip ?_
    refine thenE_n ?_
    refine W_seq ?_
    refine W_region ?_
    have hv := hp7.vok
    refine WL_q rfl (ev_loads st29 sz29 rfl (cellsB hB1) rfl) ?_
    refine WL_m rfl (ev_call rfl (stable_spec _ A _ hA (by omega) (by omega) (by assumption))) ?_
    rintro _ w11 ⟨T11, a11, c11, rfl, hs11, hO11, hE11⟩
    have hz11 := hE11.size
    replace hE := hE.trans hE11
    replace hA := hA.ext hE11
    replace hB1 := hB1.ext hE11
    refine WL_q rfl (ev_move rfl) ?_
    refine WL_q rfl (ev_extract rfl rfl) ?_
    refine WL_q rfl (ev_extract rfl rfl) ?_
    refine WL_q rfl (ev_assign rfl) ?_
    refine WL_q rfl (ev_assign rfl) ?_
    refine WL_nil ?_
    refine thenE_n ?_
    refine W_seq ?_
    refine W_region ?_
    refine WL_q rfl (ev_move rfl) ?_
    refine WL_q rfl (ev_assign rfl) ?_
    refine WL_q rfl (ev_assign rfl) ?_
    refine WL_nil ?_
    refine thenE_n ?_
    refine W_ret ?_
    refine ret2 rfl rfl rfl ?_
    first | (exact ⟨_, _, _, false, rfl, ffI hp7, fun h => (tfX h.symm).elim, hE⟩) | (exact ⟨_, _, _, true, rfl, ttI hp7, fun _ => ⟨rfl, T11, hs11, hO11.mono (by omega)⟩, hE⟩)

end Go.Proofs.Ytmdmpapdjgcchaa
