/- Contracts of IsNetwork, of the program and of the reference, and of what they call. -/
import Derived.Test.YticlopepmnlkmaaSort
import Derived.Test.YticlopepmnlkmaaMachine
namespace Go.Proofs.Yticlopepmnlkmaa
open Go Go.RowKit

/-- Numbers that rise, each in a range. -/
def IncR (xs : List Int) (lo hi : Int) : Prop := (∀ x ∈ xs, lo ≤ x ∧ x ≤ hi) ∧ xs.Pairwise (· < ·)
theorem inc_of_steps {xs : List Int} {lo hi : Int} (h : ∀ j (h2 : j < xs.length), (lo ≤ xs[j] ∧ xs[j] ≤ hi) ∧ ∀ (h3 : 0 < j), xs[j - 1] < xs[j]) : IncR xs lo hi := by
  refine ⟨fun x hx => ?_, ?_⟩
  · obtain ⟨j, hj, rfl⟩ := List.mem_iff_getElem.1 hx; exact (h j hj).1
  · rw [List.pairwise_iff_getElem]
    intro i j hi hj hij
    induction j with
    | zero => omega
    | succ k ih =>
      have h1 := (h (k + 1) hj).2 (by omega)
      simp only [Nat.add_sub_cancel] at h1
      by_cases hk : i = k
      · subst hk; exact h1
      · have := ih (by omega) (by omega); omega
theorem inc_bad {xs : List Int} {lo hi : Int} {j : Nat} (h : IncR xs lo hi) (h2 : j < xs.length) : (lo ≤ xs[j] ∧ xs[j] ≤ hi) ∧ ∀ (h3 : 0 < j), xs[j - 1] < xs[j] :=
  ⟨h.1 _ (List.getElem_mem h2), fun h3 => (List.pairwise_iff_getElem.1 h.2) (j - 1) j (by omega) h2 (by omega)⟩
theorem inc_srt (xs : List Int) (lo hi : Int) : IncR (srt xs) lo hi ↔ ((∀ x ∈ xs, lo ≤ x ∧ x ≤ hi) ∧ xs.Nodup) := by
  have hp := srt_perm xs
  constructor
  · rintro ⟨h1, h2⟩
    refine ⟨fun x hx => h1 x (hp.mem_iff.2 hx), hp.nodup_iff.1 ?_⟩
    exact h2.imp fun h e => by omega
  · rintro ⟨h1, h2⟩
    refine ⟨fun x hx => h1 x (hp.mem_iff.1 hx), ?_⟩
    have h3 : (srt xs).Nodup := hp.nodup_iff.2 h2
    have h4 := srt_sorted xs
    rw [List.pairwise_iff_getElem] at h4 ⊢
    intro i j hi hj hij
    have h5 := h4 i j hi hj hij
    have h6 := (List.pairwise_iff_getElem.1 h3) i j hi hj hij
    have : (srt xs)[i] ≠ (srt xs)[j] := h6
    omega
theorem Ints.of_own {lo : Nat} {w : World} {E : TypeId} {a : Option Addr} {n c : Nat} {xs : List Int} (hl : xs.length = n) (h : Own lo w E 1 a n c (xs.map VI)) : Ints lo w.heap.size w a c xs :=
  ⟨by have := h.cap.1; simp; omega, by simp, by rw [ints_flat]; exact h.sat⟩
/-- Valid identifiers. -/
def IdsOk (ids : List Int) (n : Int) : Prop := ids.length = 0 ∨ ((ids.length : Int) = n ∧ (∀ x ∈ ids, 1 ≤ x ∧ x ≤ 999999) ∧ ids.Nodup)

set_option maxRecDepth 100000 in
theorem increasing_spec {l r : Nat} (a : Option Addr) (c : Nat) (xs : List Int) (lo hi : Int) (w : World) (hx : Ints l r w a c xs) (hm : xs.length ≤ 1048576) :
    Fn Try.prog 45 #[.slice a xs.length c, VI lo, VI hi] w (fun v w' => ∃ b, v = VB b ∧ (b = true ↔ IncR xs lo hi) ∧ Ext w w') := by
  have hE := Ext.refl w
  refine Fn_of Try.func45 rfl rfl (by kernel_rfl) rfl ?_
  refine W_seq ?_
  refine W_region ?_
  refine WL_q rfl (ev_assign rfl) ?_
  refine WL_nil ?_
  refine thenE_n ?_
  refine W_seq ?_
  refine W_seq ?_
  refine W_region ?_
  refine WL_q rfl (ev_move rfl) ?_
  refine WL_q rfl (ev_len Try.underlying23 rfl) ?_
  refine WL_q rfl (ev_move rfl) ?_
  refine WL_nil ?_
  refine thenE_n ?_
  refine W_block ?_
  refine W_loopC (G := Nat) [(0, _), (1, _), (2, _), (9, _), (10, _)] ((Subs.c rfl (Subs.c rfl (Subs.c rfl (Subs.c rfl (Subs.c rfl Subs.n)))))) (fun i => [(11, VI (i : Int))]) (fun i w' => Ext w w' ∧ i ≤ xs.length ∧ ∀ j (_h : j < i) (h2 : j < xs.length), (lo ≤ xs[j] ∧ xs[j] ≤ hi) ∧ ∀ (h3 : 0 < j), xs[j - 1] < xs[j]) (fun i => xs.length - i) 0 ((Subs.c (lkI rfl (by omega)) Subs.n)) (⟨Ext.refl _, ⟨by omega, fun j h => by omega⟩⟩) ?_
  rintro i wL0 ⟨hRL0, hi', hJ⟩
  have hzL0 := hRL0.size
  replace hE := hE.trans hRL0
  replace hx := hx.ext hRL0
  refine W_seq ?_
  refine W_region ?_
  refine WL_q rfl (ev_lss rfl rfl) ?_
  refine WL_nil ?_
  refine thenE_n ?_
  refine W_seq ?_
  refine W_cond rfl (fun hg12 => ?_) (fun hg12 => ?_)
  · have hp12 := of_decide_eq_true hg12
    refine W_skip ?_
    refine thenE_n ?_
    refine W_seq ?_
    refine W_block ?_
    refine W_seq ?_
    refine W_region ?_
    refine WL_q rfl (ev_move rfl) ?_
    refine WL_q rfl (ev_indexAddr Try.underlying23 sz3 rfl rfl (hx.isSome (by omega)) (by omega) (by omega)) ?_
    refine WL_q rfl (ev_load one3 rfl (hx.cell (i := i) (by omega))) ?_
    refine WL_q rfl (ev_assign rfl) ?_
    refine WL_q rfl (ev_assign rfl) ?_
    refine WL_nil ?_
    refine thenE_n ?_
    refine W_seq ?_
    refine W_region ?_
    refine WL_q rfl (ev_move rfl) ?_
    refine WL_q rfl (ev_move rfl) ?_
    refine WL_q rfl (ev_move rfl) ?_
    refine WL_m rfl (ev_call rfl (within_spec _ _ _ _)) ?_
    rintro _ _ ⟨rfl, rfl⟩
    refine WL_q rfl (ev_not rfl) ?_
    refine WL_q rfl (ev_move rfl) ?_
    refine WL_splitv (t := 21) rfl (fun hg20 => ?_) (fun hg20 => ?_)
    · have hg19 := not_true hg20
      have hp19 := inR_false.1 hg19
      refine WL_no rfl rfl hg20 rfl ?_
      refine WL_no rfl rfl hg20 rfl ?_
      refine WL_no rfl rfl hg20 rfl ?_
      refine WL_nou rfl rfl rfl ?_
      refine WL_nou rfl rfl rfl ?_
      refine WL_nou rfl rfl rfl ?_
      refine WL_nou rfl rfl rfl ?_
      refine WL_nou rfl rfl rfl ?_
      refine WL_nou rfl rfl rfl ?_
      refine WL_nou rfl rfl rfl ?_
      refine WL_no rfl rfl hg20 rfl ?_
      refine WL_q rfl (ev_pick_t rfl hg20 rfl) ?_
      refine WL_nil ?_
      refine thenE_n ?_
      refine W_cond_t rfl ?_
      refine W_seq ?_
      refine W_region ?_
      refine WL_q rfl (ev_assign rfl) ?_
      refine WL_nil ?_
      refine thenE_n ?_
      refine W_ret ?_
      refine blockE_r ?_
      refine thenE_r ?_
      refine thenE_r ?_
      refine blockE_r ?_
      refine thenE_r ?_
      refine ret1 rfl rfl ?_
      first | (refine ⟨false, rfl, ffI fun hk => ?_, hE⟩; have := inc_bad hk (show i < xs.length by omega); omega) | (refine ⟨false, rfl, ffI fun hk => ?_, hE⟩; have := (inc_bad hk (show i < xs.length by omega)).2 (by omega); omega) | (exact ⟨true, rfl, ttI (inc_of_steps fun j h2 => hJ j (by omega) h2), hE⟩)
    · have hg19 := not_false hg20
      have hp19 := inR_true.1 hg19
      refine WL_qg rfl rfl hg20 rfl (ev_move rfl) ?_
      refine WL_qg rfl rfl hg20 rfl (ev_gtr rfl rfl) ?_
      refine WL_qg rfl rfl hg20 rfl (ev_move rfl) ?_
      refine WL_splitv (t := 24) rfl (fun hg23 => ?_) (fun hg23 => ?_)
      · have hp23 := of_decide_eq_true hg23
        refine WL_qg rfl rfl hg23 rfl (ev_move rfl) ?_
        refine WL_qg rfl rfl hg23 rfl (ev_move rfl) ?_
        refine WL_qg rfl rfl hg23 rfl (ev_sub rfl rfl (by omega)) ?_
        have hel : xs[((i : Int) - 1).toNat]'(by omega) = xs[i - 1]'(by omega) := getElem_congr_idx (by omega)
        refine WL_qg rfl rfl hg23 rfl (ev_indexAddr Try.underlying23 sz3 rfl rfl (hx.isSome (by omega)) (by omega) (by omega)) ?_
        refine WL_qg rfl rfl hg23 rfl (ev_load one3 rfl (hx.cell (i := ((i : Int) - 1).toNat) (by omega))) ?_
        refine WL_qg rfl rfl hg23 rfl (ev_move rfl) ?_
        refine WL_qg rfl rfl hg23 rfl (ev_geq rfl rfl) ?_
        refine WL_qg rfl rfl hg20 rfl (ev_pick_t rfl hg23 rfl) ?_
        refine WL_q rfl (ev_pick_f rfl hg20 rfl) ?_
        refine WL_nil ?_
        refine thenE_n ?_
        refine W_cond rfl (fun hg31 => ?_) (fun hg31 => ?_)
        · have hp31 := of_decide_eq_true hg31
          refine W_seq ?_
          refine W_region ?_
          refine WL_q rfl (ev_assign rfl) ?_
          refine WL_nil ?_
          refine thenE_n ?_
          refine W_ret ?_
          refine blockE_r ?_
          refine thenE_r ?_
          refine thenE_r ?_
          refine blockE_r ?_
          refine thenE_r ?_
          refine ret1 rfl rfl ?_
          first | (refine ⟨false, rfl, ffI fun hk => ?_, hE⟩; have := inc_bad hk (show i < xs.length by omega); omega) | (refine ⟨false, rfl, ffI fun hk => ?_, hE⟩; have := (inc_bad hk (show i < xs.length by omega)).2 (by omega); omega) | (exact ⟨true, rfl, ttI (inc_of_steps fun j h2 => hJ j (by omega) h2), hE⟩)
        · have hp31 := of_decide_eq_false hg31
          refine W_skip ?_
          refine blockE_n ?_
          refine thenE_n ?_
          refine W_region ?_
          refine WL_q rfl (ev_add rfl rfl (by omega)) ?_
          refine WL_q rfl (ev_move rfl) ?_
          refine WL_nil ?_
          refine thenE_n ?_
          exact ⟨i + 1, (Subs.c rfl (Subs.c rfl (Subs.c rfl (Subs.c rfl (Subs.c rfl Subs.n))))), (Subs.c (lkI rfl (by omega)) Subs.n), ⟨hRL0, ⟨by omega, fun j h1 h2 => by
    by_cases hj : j = i
    · subst hj; exact ⟨hp19, fun h3 => by omega⟩
    · exact hJ j (by omega) h2⟩⟩, by first | omega | (dsimp only; omega)⟩
      · have hp23 := of_decide_eq_false hg23
        refine WL_no rfl rfl hg23 rfl ?_
        refine WL_no rfl rfl hg23 rfl ?_
        refine WL_no rfl rfl hg23 rfl ?_
        refine WL_no rfl rfl hg23 rfl ?_
        refine WL_no rfl rfl hg23 rfl ?_
        refine WL_no rfl rfl hg23 rfl ?_
        refine WL_no rfl rfl hg23 rfl ?_
        refine WL_qg rfl rfl hg20 rfl (ev_pick_f rfl hg23 rfl) ?_
        refine WL_q rfl (ev_pick_f rfl hg20 rfl) ?_
        refine WL_nil ?_
        refine thenE_n ?_
        refine W_cond_f rfl ?_
        refine W_skip ?_
        refine blockE_n ?_
        refine thenE_n ?_
        refine W_region ?_
        refine WL_q rfl (ev_add rfl rfl (by omega)) ?_
        refine WL_q rfl (ev_move rfl) ?_
        refine WL_nil ?_
        refine thenE_n ?_
        exact ⟨i + 1, (Subs.c rfl (Subs.c rfl (Subs.c rfl (Subs.c rfl (Subs.c rfl Subs.n))))), (Subs.c (lkI rfl (by omega)) Subs.n), ⟨hRL0, ⟨by omega, fun j h1 h2 => by
    by_cases hj : j = i
    · subst hj; exact ⟨hp19, fun h3 => by omega⟩
    · exact hJ j (by omega) h2⟩⟩, by first | omega | (dsimp only; omega)⟩
  · have hp12 := of_decide_eq_false hg12
    refine W_exit ?_
    refine thenE_x ?_
    refine thenE_x ?_
    refine blockE_hit ?_
    refine thenE_n ?_
    refine W_seq ?_
    refine W_region ?_
    refine WL_q rfl (ev_assign rfl) ?_
    refine WL_nil ?_
    refine thenE_n ?_
    refine W_ret ?_
    refine ret1 rfl rfl ?_
    first | (refine ⟨false, rfl, ffI fun hk => ?_, hE⟩; have := inc_bad hk (show i < xs.length by omega); omega) | (refine ⟨false, rfl, ffI fun hk => ?_, hE⟩; have := (inc_bad hk (show i < xs.length by omega)).2 (by omega); omega) | (exact ⟨true, rfl, ttI (inc_of_steps fun j h2 => hJ j (by omega) h2), hE⟩)

theorem increasing_len {l r : Nat} {a : Option Addr} {c n : Nat} {xs : List Int} {lo hi : Int} {w : World} (hl : n = xs.length) (hx : Ints l r w a c xs) (hm : xs.length ≤ 1048576) :
    Fn Try.prog 45 #[.slice a n c, VI lo, VI hi] w (fun v w' => ∃ b, v = VB b ∧ (b = true ↔ IncR xs lo hi) ∧ Ext w w') := by
  subst hl; exact increasing_spec _ _ _ _ _ _ hx hm

set_option maxRecDepth 100000 in
theorem idsOk_spec {lo hi : Nat} (a : Option Addr) (c : Nat) (xs : List Int) (n : Int) (w : World) (hx : Ints lo hi w a c xs) (hhi : hi ≤ w.heap.size) (hm : xs.length ≤ 1048576) :
    Fn Try.prog 33 #[.slice a xs.length c, VI n] w (fun v w' => ∃ b, v = VB b ∧ (b = true ↔ IdsOk xs n) ∧ Ext w w') := by
  have hsl := srt_len xs
  have hE := Ext.refl w
  refine Fn_of Try.func33 rfl rfl (by kernel_rfl) rfl ?_
  refine W_seq ?_
  refine W_region ?_
  refine WL_q rfl (ev_assign rfl) ?_
  refine WL_nil ?_
  refine thenE_n ?_
  refine W_seq ?_
  refine W_seq ?_
  refine W_region ?_
  refine WL_q rfl (ev_move rfl) ?_
  refine WL_q rfl (ev_len Try.underlying23 rfl) ?_
  refine WL_q rfl (ev_eql rfl rfl) ?_
  refine WL_nil ?_
  refine thenE_n ?_
  refine W_cond rfl (fun hg8 => ?_) (fun hg8 => ?_)
  · have hp8 := of_decide_eq_true hg8
    refine W_seq ?_
    refine W_region ?_
    refine WL_q rfl (ev_assign rfl) ?_
    refine WL_nil ?_
    refine thenE_n ?_
    refine W_ret ?_
    refine thenE_r ?_
    refine ret1 rfl rfl ?_
    first | (refine ⟨_, rfl, ttI (.inl (by omega)), hE⟩) | (refine ⟨_, rfl, ⟨fun ho => .inr ⟨hp16, (inc_srt _ _ _).1 (hb19.1 ho)⟩, fun hk => hb19.2 ((inc_srt _ _ _).2 (by rcases hk with h | h; omega; exact h.2))⟩, hE⟩) | (refine ⟨false, rfl, ffI fun hk => ?_, hE⟩; rcases hk with h | h; omega; exact absurd h.1 hp16)
  · have hp8 := of_decide_eq_false hg8
    refine W_skip ?_
    refine thenE_n ?_
    refine W_seq ?_
    refine W_region ?_
    refine WL_q rfl (ev_move rfl) ?_
    refine WL_m rfl (ev_call rfl (Clone_int _ _ xs _ hx (by omega) (by omega))) ?_
    rintro _ w10 ⟨a10, c10, rfl, hO10, hE10⟩
    have hz10 := hE10.size
    replace hE := hE.trans hE10
    replace hx := hx.ext hE10
    refine WL_q rfl (ev_assign rfl) ?_
    refine WL_nil ?_
    refine thenE_n ?_
    refine W_seq ?_
    refine W_region ?_
    refine WL_q rfl (ev_move rfl) ?_
    refine WL_m rfl (ev_call rfl (Sort_spec _ _ xs _ hO10 (by omega) (by omega))) ?_
    rintro _ w12 ⟨rfl, hO12, hK12⟩
    have hz12 := hK12.size
    replace hE := hE.app hK12 (fun q hq => (hO10.block q hq).1)
    replace hx := hx.app hK12 (hO10) (by omega)
    replace hO10 := hO12
    refine WL_nil ?_
    refine thenE_n ?_
    refine W_seq ?_
    refine W_region ?_
    refine WL_q rfl (ev_move rfl) ?_
    refine WL_q rfl (ev_len Try.underlying23 rfl) ?_
    refine WL_q rfl (ev_move rfl) ?_
    refine WL_q rfl (ev_eql rfl rfl) ?_
    refine WL_q rfl (ev_move rfl) ?_
    refine WL_splitv (t := 17) rfl (fun hg16 => ?_) (fun hg16 => ?_)
    · have hp16 := of_decide_eq_true hg16
      refine WL_qg rfl rfl hg16 rfl (ev_move rfl) ?_
      have hxs := Ints.of_own hsl hO10
      refine WL_mg rfl rfl hg16 rfl (ev_call rfl (increasing_len (xs := srt xs) hsl.symm hxs (by omega))) ?_
      rintro _ w19 ⟨b19, rfl, hb19, hE19⟩
      have hz19 := hE19.size
      replace hE := hE.trans hE19
      replace hx := hx.ext hE19
      replace hO10 := hO10.ext hE19
      refine WL_q rfl (ev_pick_t rfl hg16 rfl) ?_
      refine WL_q rfl (ev_assign rfl) ?_
      refine WL_nil ?_
      refine thenE_n ?_
      refine W_ret ?_
      refine ret1 rfl rfl ?_
      first | (refine ⟨_, rfl, ttI (.inl (by omega)), hE⟩) | (refine ⟨_, rfl, ⟨fun ho => .inr ⟨hp16, (inc_srt _ _ _).1 (hb19.1 ho)⟩, fun hk => hb19.2 ((inc_srt _ _ _).2 (by rcases hk with h | h; omega; exact h.2))⟩, hE⟩) | (refine ⟨false, rfl, ffI fun hk => ?_, hE⟩; rcases hk with h | h; omega; exact absurd h.1 hp16)
    · have hp16 := of_decide_eq_false hg16
      refine WL_no rfl rfl hg16 rfl ?_
      refine WL_no rfl rfl hg16 rfl ?_
      refine WL_q rfl (ev_pick_f rfl hg16 rfl) ?_
      refine WL_q rfl (ev_assign rfl) ?_
      refine WL_nil ?_
      refine thenE_n ?_
      refine W_ret ?_
      refine ret1 rfl rfl ?_
      first | (refine ⟨_, rfl, ttI (.inl (by omega)), hE⟩) | (refine ⟨_, rfl, ⟨fun ho => .inr ⟨hp16, (inc_srt _ _ _).1 (hb19.1 ho)⟩, fun hk => hb19.2 ((inc_srt _ _ _).2 (by rcases hk with h | h; omega; exact h.2))⟩, hE⟩) | (refine ⟨false, rfl, ffI fun hk => ?_, hE⟩; rcases hk with h | h; omega; exact absurd h.1 hp16)

set_option maxRecDepth 100000 in
theorem inputsOk_spec {lo hi : Nat} (a : Option Addr) (c : Nat) (xs : List Int) (n : Int) (w : World) (hx : Ints lo hi w a c xs) (hm : xs.length ≤ 1048576) :
    Fn Try.prog 34 #[.slice a xs.length c, VI n] w (fun v w' => ∃ b, v = VB b ∧ (b = true ↔ ((xs.length : Int) = n ∧ allR xs 0 9 = true)) ∧ Ext w w') := by
  have hE := Ext.refl w
  refine Fn_of Try.func34 rfl rfl (by kernel_rfl) rfl ?_
  refine W_seq ?_
  refine W_region ?_
  refine WL_q rfl (ev_assign rfl) ?_
  refine WL_nil ?_
  refine thenE_n ?_
  refine W_seq ?_
  refine W_region ?_
  refine WL_q rfl (ev_move rfl) ?_
  refine WL_q rfl (ev_len Try.underlying23 rfl) ?_
  refine WL_q rfl (ev_move rfl) ?_
  refine WL_q rfl (ev_eql rfl rfl) ?_
  refine WL_q rfl (ev_move rfl) ?_
  refine WL_splitv (t := 9) rfl (fun hg8 => ?_) (fun hg8 => ?_)
  · have hp8 := of_decide_eq_true hg8
    refine WL_qg rfl rfl hg8 rfl (ev_move rfl) ?_
    refine WL_mg rfl rfl hg8 rfl (ev_call rfl (allWithin_spec _ _ _ _ _ _ (by assumption) (by omega))) ?_
    rintro _ w11 ⟨rfl, hE11⟩
    have hz11 := hE11.size
    replace hE := hE.trans hE11
    replace hx := hx.ext hE11
    refine WL_q rfl (ev_pick_t rfl hg8 rfl) ?_
    refine WL_q rfl (ev_assign rfl) ?_
    refine WL_nil ?_
    refine thenE_n ?_
    refine W_ret ?_
    refine ret1 rfl rfl ?_
    first | (exact ⟨_, rfl, ⟨fun ho => ⟨hp8, ho⟩, fun hk => hk.2⟩, hE⟩) | (exact ⟨false, rfl, ffI fun hk => hp8 hk.1, hE⟩)
  · have hp8 := of_decide_eq_false hg8
    refine WL_no rfl rfl hg8 rfl ?_
    refine WL_no rfl rfl hg8 rfl ?_
    refine WL_q rfl (ev_pick_f rfl hg8 rfl) ?_
    refine WL_q rfl (ev_assign rfl) ?_
    refine WL_nil ?_
    refine thenE_n ?_
    refine W_ret ?_
    refine ret1 rfl rfl ?_
    first | (exact ⟨_, rfl, ⟨fun ho => ⟨hp8, ho⟩, fun hk => hk.2⟩, hE⟩) | (exact ⟨false, rfl, ffI fun hk => hp8 hk.1, hE⟩)

def HasNode (n : Net) (v : Int) : Prop := 0 ≤ v ∧ v.toNat < n.ends.length
def HasPort (n : Net) (v i : Int) : Prop := 0 ≤ v ∧ ∃ _h : v.toNat < n.ends.length, 0 ≤ i ∧ i.toNat < n.ends[v.toNat].length
/-- The end e at port i of node v is right. -/
def EndOk (n : Net) (v i : Nat) (e : Int × Int) : Prop := 0 ≤ e.1 ∧ ∃ _h : e.1.toNat < n.ends.length, 0 ≤ e.2 ∧ ∃ _h2 : e.2.toNat < n.ends[e.1.toNat].length, n.ends[e.1.toNat][e.2.toNat] = ((v : Int), (i : Int))
def RowOk (n : Net) (v : Nat) (l : List (Int × Int)) : Prop := (l.length : Int) ≤ 6 ∧ ∀ j (_h : j < l.length), EndOk n v j l[j]
/-- A valid network. -/
structure NOk (n : Net) : Prop where
  nodes : 1 ≤ (n.ends.length : Int) ∧ (n.ends.length : Int) ≤ 40
  ids : IdsOk n.ids n.ends.length
  inLen : (n.inputs.length : Int) = n.ends.length
  inputs : allR n.inputs 0 9 = true
  rows : ∀ v (_h : v < n.ends.length), RowOk n v n.ends[v]

set_option maxRecDepth 100000 in
theorem hasNode_spec (h : NA) (n : Net) (v : Int) (w : World) (hn : n.ends.length ≤ 1048576) :
    Fn Try.prog 17 #[netV h n, VI v] w (fun r w' => ∃ b, r = VB b ∧ (b = true ↔ HasNode n v) ∧ Ext w w') := by
  have hE := Ext.refl w
  refine Fn_of Try.func17 rfl rfl (by kernel_rfl) rfl ?_
  refine W_seq ?_
  refine W_region ?_
  refine WL_m rfl (ev_box rfl) ?_
  rintro _ w2 ⟨rfl, hN2⟩
  have hz2 := hN2.size
  replace hE := hE.trans hN2.ext
  have hB2 : Blk w2 _ _ [_, _, _] := hN2.blk
  refine WL_q rfl (ev_assign rfl) ?_
  refine WL_nil ?_
  refine thenE_n ?_
  refine W_seq ?_
  refine W_region ?_
  refine WL_q rfl (ev_move rfl) ?_
  refine WL_q rfl (ev_fieldAddr fo31_0 rfl) ?_
  refine WL_q rfl (ev_load one29 rfl (hB2.cell rfl)) ?_
  refine WL_q rfl (ev_len Try.underlying29 rfl) ?_
  refine WL_q rfl (ev_sub rfl rfl (by omega)) ?_
  refine WL_m rfl (ev_call rfl (within_spec _ _ _ _)) ?_
  rintro _ _ ⟨rfl, rfl⟩
  refine WL_q rfl (ev_assign rfl) ?_
  refine WL_nil ?_
  refine thenE_n ?_
  refine W_ret ?_
  refine ret1 rfl rfl ?_
  exact ⟨_, rfl, ⟨fun hk => by have := inR_true.1 hk; exact ⟨by omega, by omega⟩, fun hk => inR_true.2 ⟨hk.1, by have := hk.2; omega⟩⟩, hE⟩

set_option maxRecDepth 100000 in
theorem hasPort_spec {lo hi : Nat} (h : NA) (n : Net) (v i : Int) (w : World) (hN : IsNet lo hi w h n) (hn : totL n.ends ≤ 1048576) :
    Fn Try.prog 35 #[netV h n, VI v, VI i] w (fun r w' => ∃ b, r = VB b ∧ (b = true ↔ HasPort n v i) ∧ Ext w w') := by
  have hq1 := totL_len n.ends
  have hE := Ext.refl w
  refine Fn_of Try.func35 rfl rfl (by kernel_rfl) rfl ?_
  refine W_seq ?_
  refine W_region ?_
  refine WL_m rfl (ev_box rfl) ?_
  rintro _ w3 ⟨rfl, hN3⟩
  have hz3 := hN3.size
  replace hE := hE.trans hN3.ext
  replace hN := hN.ext hN3.ext
  have hB3 : Blk w3 _ _ [_, _, _] := hN3.blk
  refine WL_q rfl (ev_assign rfl) ?_
  refine WL_nil ?_
  refine thenE_n ?_
  refine W_seq ?_
  refine W_region ?_
  refine WL_q rfl (ev_loads st31 sz31 rfl (cellsB hB3) rfl) ?_
  refine WL_q rfl (ev_move rfl) ?_
  refine WL_m rfl (ev_call rfl (hasNode_spec h n _ _ (by omega))) ?_
  rintro _ w9 ⟨b9, rfl, hb9, hE9⟩
  have hz9 := hE9.size
  replace hE := hE.trans hE9
  replace hN := hN.ext hE9
  replace hB3 := hB3.ext hE9
  refine WL_q rfl (ev_move rfl) ?_
  refine WL_splitv (t := 10) rfl (fun hg9 => ?_) (fun hg9 => ?_)
  · have hp9 := hb9.1 hg9
    refine WL_qg rfl rfl hg9 rfl (ev_move rfl) ?_
    refine WL_qg rfl rfl hg9 rfl (ev_fieldAddr fo31_0 rfl) ?_
    refine WL_qg rfl rfl hg9 rfl (ev_load one29 rfl (hB3.cell rfl)) ?_
    refine WL_qg rfl rfl hg9 rfl (ev_move rfl) ?_
    have hv1 := hp9.1
    have hv2 := hp9.2
    have ht := totL_le hv2
    obtain ⟨a2, c2, hc2, hr2⟩ := hN.ends.row hv2
    refine WL_qg rfl rfl hg9 rfl (ev_indexAddr Try.underlying29 sz46 rfl rfl (hN.ends.isSome (by omega)) hp9.1 (by have := hp9.2; omega)) ?_
    refine WL_qg rfl rfl hg9 rfl (ev_load one46 rfl (hc2)) ?_
    refine WL_qg rfl rfl hg9 rfl (ev_len Try.underlying46 rfl) ?_
    refine WL_qg rfl rfl hg9 rfl (ev_sub rfl rfl (by omega)) ?_
    refine WL_mg rfl rfl hg9 rfl (ev_call rfl (within_spec _ _ _ _)) ?_
    rintro _ _ ⟨rfl, rfl⟩
    refine WL_q rfl (ev_pick_t rfl hg9 rfl) ?_
    refine WL_q rfl (ev_assign rfl) ?_
    refine WL_nil ?_
    refine thenE_n ?_
    refine W_ret ?_
    refine ret1 rfl rfl ?_
    first | (exact ⟨_, rfl, ⟨fun hk => by have := inR_true.1 hk; exact ⟨hv1, hv2, by omega, by omega⟩, fun hk => by obtain ⟨k1, k2, k3, k4⟩ := hk; exact inR_true.2 ⟨k3, by omega⟩⟩, hE⟩) | (exact ⟨false, rfl, ffI fun hk => hp9 ⟨hk.1, hk.2.1⟩, hE⟩)
  · have hp9 := ttN hb9 hg9
    refine WL_no rfl rfl hg9 rfl ?_
    refine WL_no rfl rfl hg9 rfl ?_
    refine WL_no rfl rfl hg9 rfl ?_
    refine WL_no rfl rfl hg9 rfl ?_
    refine WL_no rfl rfl hg9 rfl ?_
    refine WL_no rfl rfl hg9 rfl ?_
    refine WL_no rfl rfl hg9 rfl ?_
    refine WL_no rfl rfl hg9 rfl ?_
    refine WL_no rfl rfl hg9 rfl ?_
    refine WL_q rfl (ev_pick_f rfl hg9 rfl) ?_
    refine WL_q rfl (ev_assign rfl) ?_
    refine WL_nil ?_
    refine thenE_n ?_
    refine W_ret ?_
    refine ret1 rfl rfl ?_
    first | (exact ⟨_, rfl, ⟨fun hk => by have := inR_true.1 hk; exact ⟨hv1, hv2, by omega, by omega⟩, fun hk => by obtain ⟨k1, k2, k3, k4⟩ := hk; exact inR_true.2 ⟨k3, by omega⟩⟩, hE⟩) | (exact ⟨false, rfl, ffI fun hk => hp9 ⟨hk.1, hk.2.1⟩, hE⟩)

theorem dsucc {N i : Nat} {P : (j : Nat) → j < N → Prop} (hJ : ∀ j (_h : j < i) (h2 : j < N), P j h2) (h : i < N) (hp : P i h) : ∀ j (_h : j < i + 1) (h2 : j < N), P j h2 := by
  intro j h1 h2
  by_cases hj : j = i
  · subst hj; exact hp
  · exact hJ j (by omega) h2
theorem EndOk.port {n : Net} {v i : Nat} {e : Int × Int} (h : EndOk n v i e) : HasPort n e.1 e.2 := ⟨h.1, h.2.1, h.2.2.1, h.2.2.2.1⟩
theorem EndOk.back {n : Net} {v i : Nat} {e : Int × Int} (h : EndOk n v i e) : n.ends[e.1.toNat]'h.2.1 = n.ends[e.1.toNat]'h.2.1 ∧ (n.ends[e.1.toNat]'h.2.1)[e.2.toNat]'h.2.2.2.1 = ((v : Int), (i : Int)) := ⟨rfl, h.2.2.2.2⟩
theorem NOk.endOk {n : Net} (h : NOk n) {v i : Nat} (hv : v < n.ends.length) (hi : i < n.ends[v].length) : EndOk n v i n.ends[v][i] := (h.rows v hv).2 i hi
theorem EndOk.no1 {n : Net} {v i : Nat} {e : Int × Int} (h : EndOk n v i e) {h1 : e.1.toNat < n.ends.length} {h2 : e.2.toNat < n.ends[e.1.toNat].length} (k : ¬ (n.ends[e.1.toNat][e.2.toNat].1 = (v : Int) ∧ n.ends[e.1.toNat][e.2.toNat].2 = (i : Int))) : False := k (by rw [h.2.2.2.2]; exact ⟨rfl, rfl⟩)
theorem Ints.take {lo hi : Nat} {w : World} {a : Option Addr} {c : Nat} {xs : List Int} (h : Ints lo hi w a c xs) (k : Nat) : Ints lo hi w a c (xs.take k) := by
  have hc := Arr.cap h
  have hs := Arr.sat h
  rw [ints_flat] at hs
  refine ⟨?_, ?_, ?_⟩
  · simp at hc ⊢; omega
  · intro r hr; obtain ⟨x, _, rfl⟩ := List.mem_map.1 hr; rfl
  · rw [ints_flat, List.map_take]; exact hs.take k
theorem nodup_take {xs : List Int} (h : ∀ j (h2 : j < xs.length), xs[j] ∉ xs.take j) : xs.Nodup := by
  rw [List.Nodup, List.pairwise_iff_getElem]
  intro i j hi hj hij e
  exact h j hj (by rw [← e]; exact List.mem_take_iff_getElem.2 ⟨i, by omega, rfl⟩)
theorem take_nodup {xs : List Int} (h : xs.Nodup) {j : Nat} (h2 : j < xs.length) : xs[j] ∉ xs.take j := by
  intro hm
  obtain ⟨i, hi, e⟩ := List.mem_take_iff_getElem.1 hm
  exact (List.pairwise_iff_getElem.1 h) i j (by omega) h2 (by omega) e

set_option maxRecDepth 100000 in
theorem l1Has_spec {lo hi n : Nat} (a : Option Addr) (c : Nat) (xs : List Int) (x : Int) (w : World) (hl : n = xs.length) (hx : Ints lo hi w a c xs) (hm : xs.length ≤ 1048576) :
    Fn Try.prog 49 #[.slice a n c, VI x] w (fun v w' => ∃ b, v = VB b ∧ (b = true ↔ x ∈ xs) ∧ Ext w w') := by
  subst hl
  have hE := Ext.refl w
  refine Fn_of Try.func49 rfl rfl (by kernel_rfl) rfl ?_
  refine W_seq ?_
  refine W_region ?_
  refine WL_q rfl (ev_assign rfl) ?_
  refine WL_nil ?_
  refine thenE_n ?_
  refine W_seq ?_
  refine W_seq ?_
  refine W_region ?_
  refine WL_q rfl (ev_move rfl) ?_
  refine WL_q rfl (ev_len Try.underlying23 rfl) ?_
  refine WL_q rfl (ev_move rfl) ?_
  refine WL_nil ?_
  refine thenE_n ?_
  refine W_block ?_
  refine W_loopC (G := Nat) [(1, _), (7, _), (8, _)] ((Subs.c rfl (Subs.c rfl (Subs.c rfl Subs.n)))) (fun i => [(9, VI (i : Int))]) (fun i w' => Ext w w' ∧ i ≤ xs.length ∧ ∀ j (_h : j < i) (h2 : j < xs.length), xs[j] ≠ x) (fun i => xs.length - i) 0 ((Subs.c (lkI rfl (by omega)) Subs.n)) (⟨Ext.refl _, ⟨by omega, fun j h => by omega⟩⟩) ?_
  rintro i wL0 ⟨hRL0, hi', hJ⟩
  have hzL0 := hRL0.size
  replace hE := hE.trans hRL0
  replace hx := hx.ext hRL0
  refine W_seq ?_
  refine W_region ?_
  refine WL_q rfl (ev_lss rfl rfl) ?_
  refine WL_nil ?_
  refine thenE_n ?_
  refine W_seq ?_
  refine W_cond rfl (fun hg10 => ?_) (fun hg10 => ?_)
  · have hp10 := of_decide_eq_true hg10
    refine W_skip ?_
    refine thenE_n ?_
    refine W_seq ?_
    refine W_block ?_
    refine W_seq ?_
    refine W_region ?_
    refine WL_q rfl (ev_indexAddr Try.underlying23 sz3 rfl rfl (hx.isSome (by omega)) (by omega) (by omega)) ?_
    refine WL_q rfl (ev_load one3 rfl (hx.cell (i := i) (by omega))) ?_
    refine WL_q rfl (ev_assign rfl) ?_
    refine WL_nil ?_
    refine thenE_n ?_
    refine W_seq ?_
    refine W_region ?_
    refine WL_q rfl (ev_move rfl) ?_
    refine WL_q rfl (ev_move rfl) ?_
    refine WL_q rfl (ev_eql rfl rfl) ?_
    refine WL_nil ?_
    refine thenE_n ?_
    refine W_cond rfl (fun hg15 => ?_) (fun hg15 => ?_)
    · have hp15 := of_decide_eq_true hg15
      refine W_seq ?_
      refine W_region ?_
      refine WL_q rfl (ev_assign rfl) ?_
      refine WL_nil ?_
      refine thenE_n ?_
      refine W_ret ?_
      refine blockE_r ?_
      refine thenE_r ?_
      refine thenE_r ?_
      refine blockE_r ?_
      refine thenE_r ?_
      refine ret1 rfl rfl ?_
      first | (exact ⟨true, rfl, ttI (hp15 ▸ List.getElem_mem (show i < xs.length by omega)), hE⟩) | (exact ⟨false, rfl, ffI fun hk => by obtain ⟨j, hj, e⟩ := List.mem_iff_getElem.1 hk; exact hJ j (by omega) hj e, hE⟩)
    · have hp15 := of_decide_eq_false hg15
      refine W_skip ?_
      refine blockE_n ?_
      refine thenE_n ?_
      refine W_region ?_
      refine WL_q rfl (ev_add rfl rfl (by omega)) ?_
      refine WL_q rfl (ev_move rfl) ?_
      refine WL_nil ?_
      refine thenE_n ?_
      exact ⟨i + 1, (Subs.c rfl (Subs.c rfl (Subs.c rfl Subs.n))), (Subs.c (lkI rfl (by omega)) Subs.n), ⟨hRL0, ⟨by omega, dsucc (P := fun j h2 => xs[j] ≠ x) hJ (by omega) hp15⟩⟩, by first | omega | (dsimp only; omega)⟩
  · have hp10 := of_decide_eq_false hg10
    refine W_exit ?_
    refine thenE_x ?_
    refine thenE_x ?_
    refine blockE_hit ?_
    refine thenE_n ?_
    refine W_seq ?_
    refine W_region ?_
    refine WL_q rfl (ev_assign rfl) ?_
    refine WL_nil ?_
    refine thenE_n ?_
    refine W_ret ?_
    refine ret1 rfl rfl ?_
    first | (exact ⟨true, rfl, ttI (hp15 ▸ List.getElem_mem (show i < xs.length by omega)), hE⟩) | (exact ⟨false, rfl, ffI fun hk => by obtain ⟨j, hj, e⟩ := List.mem_iff_getElem.1 hk; exact hJ j (by omega) hj e, hE⟩)

set_option maxRecDepth 100000 in
theorem neIds_spec {lo hi : Nat} (a : Option Addr) (c : Nat) (xs : List Int) (n : Int) (w : World) (hx : Ints lo hi w a c xs) (hm : xs.length ≤ 1048576) :
    Fn Try.prog 40 #[.slice a xs.length c, VI n] w (fun v w' => ∃ b, v = VB b ∧ (b = true ↔ IdsOk xs n) ∧ Ext w w') := by
  have hcap := hx.cap
  have hE := Ext.refl w
  refine Fn_of Try.func40 rfl rfl (by kernel_rfl) rfl ?_
  refine W_seq ?_
  refine W_region ?_
  refine WL_q rfl (ev_assign rfl) ?_
  refine WL_nil ?_
  refine thenE_n ?_
  refine W_seq ?_
  refine W_seq ?_
  refine W_region ?_
  refine WL_q rfl (ev_move rfl) ?_
  refine WL_q rfl (ev_len Try.underlying23 rfl) ?_
  refine WL_q rfl (ev_move rfl) ?_
  refine WL_nil ?_
  refine thenE_n ?_
  refine W_block ?_
  refine W_loopC (G := Nat) [(0, _), (1, _), (7, _), (8, _)] ((Subs.c rfl (Subs.c rfl (Subs.c rfl (Subs.c rfl Subs.n))))) (fun i => [(9, VI (i : Int))]) (fun i w' => Ext w w' ∧ i ≤ xs.length ∧ ∀ j (_h : j < i) (h2 : j < xs.length), (1 ≤ xs[j] ∧ xs[j] ≤ 999999) ∧ xs[j] ∉ xs.take j) (fun i => xs.length - i) 0 ((Subs.c (lkI rfl (by omega)) Subs.n)) (⟨Ext.refl _, ⟨by omega, fun j h => by omega⟩⟩) ?_
  rintro i wL0 ⟨hRL0, hi', hJ⟩
  have hzL0 := hRL0.size
  replace hE := hE.trans hRL0
  replace hx := hx.ext hRL0
  refine W_seq ?_
  refine W_region ?_
  refine WL_q rfl (ev_lss rfl rfl) ?_
  refine WL_nil ?_
  refine thenE_n ?_
  refine W_seq ?_
  refine W_cond rfl (fun hg10 => ?_) (fun hg10 => ?_)
  · have hp10 := of_decide_eq_true hg10
    refine W_skip ?_
    refine thenE_n ?_
    refine W_seq ?_
    refine W_block ?_
    refine W_seq ?_
    refine W_region ?_
    refine WL_q rfl (ev_move rfl) ?_
    refine WL_q rfl (ev_indexAddr Try.underlying23 sz3 rfl rfl (hx.isSome (by omega)) (by omega) (by omega)) ?_
    refine WL_q rfl (ev_load one3 rfl (hx.cell (i := i) (by omega))) ?_
    refine WL_q rfl (ev_assign rfl) ?_
    refine WL_q rfl (ev_assign rfl) ?_
    refine WL_nil ?_
    refine thenE_n ?_
    refine W_seq ?_
    refine W_region ?_
    refine WL_q rfl (ev_move rfl) ?_
    refine WL_m rfl (ev_call rfl (l1In_spec _ _ _ _)) ?_
    rintro _ _ ⟨rfl, rfl⟩
    refine WL_q rfl (ev_not rfl) ?_
    refine WL_q rfl (ev_move rfl) ?_
    refine WL_splitv (t := 17) rfl (fun hg16 => ?_) (fun hg16 => ?_)
    · have hg15 := not_true hg16
      have hp15 := inR_false.1 hg15
      refine WL_no rfl rfl hg16 rfl ?_
      refine WL_no rfl rfl hg16 rfl ?_
      refine WL_no rfl rfl hg16 rfl ?_
      refine WL_no rfl rfl hg16 rfl ?_
      refine WL_no rfl rfl hg16 rfl ?_
      refine WL_q rfl (ev_pick_t rfl hg16 rfl) ?_
      refine WL_nil ?_
      refine thenE_n ?_
      refine W_cond_t rfl ?_
      refine W_seq ?_
      refine W_region ?_
      refine WL_q rfl (ev_assign rfl) ?_
      refine WL_nil ?_
      refine thenE_n ?_
      refine W_ret ?_
      refine blockE_r ?_
      refine thenE_r ?_
      refine thenE_r ?_
      refine blockE_r ?_
      refine thenE_r ?_
      refine ret1 rfl rfl ?_
      first | (refine ⟨false, rfl, ffI fun hk => ?_, hE⟩; rcases hk with h | h; omega; exact hp15 (h.2.1 _ (List.getElem_mem (show i < xs.length by omega)))) | (refine ⟨false, rfl, ffI fun hk => ?_, hE⟩; rcases hk with h | h; omega; exact take_nodup h.2.2 (show i < xs.length by omega) hp22) | (exact ⟨true, rfl, ttI (.inl (by omega)), hE⟩) | (refine ⟨_, rfl, ⟨fun ho => .inr ⟨of_decide_eq_true ho, fun x hx => (all_of_idx (p := fun x => 1 ≤ x ∧ x ≤ 999999) (fun j h1 h2 => (hJ j h1 h2).1) (by omega) x hx), nodup_take fun j h2 => (hJ j (by omega) h2).2⟩, fun hk => decide_eq_true (by rcases hk with h | h; omega; exact h.1)⟩, hE⟩)
    · have hg15 := not_false hg16
      have hp15 := inR_true.1 hg15
      refine WL_qg rfl rfl hg16 rfl (ev_move rfl) ?_
      refine WL_qg rfl rfl hg16 rfl (ev_move rfl) ?_
      refine WL_qg rfl rfl hg16 rfl (ev_slice_hi Try.underlying23 sz3 rfl rfl (by omega) (by omega)) ?_
      refine WL_qg rfl rfl hg16 rfl (ev_move rfl) ?_
      refine WL_mg rfl rfl hg16 rfl (ev_call rfl (l1Has_spec _ _ (xs.take i) _ _ (by simp; omega) (hx.take i) (by simp; omega))) ?_
      rintro _ w22 ⟨b22, rfl, hb22, hE22⟩
      have hz22 := hE22.size
      replace hE := hE.trans hE22
      replace hRL0 := hRL0.trans hE22
      replace hx := hx.ext hE22
      refine WL_q rfl (ev_pick_f rfl hg16 rfl) ?_
      refine WL_nil ?_
      refine thenE_n ?_
      refine W_cond rfl (fun hg22 => ?_) (fun hg22 => ?_)
      · have hp22 := hb22.1 hg22
        refine W_seq ?_
        refine W_region ?_
        refine WL_q rfl (ev_assign rfl) ?_
        refine WL_nil ?_
        refine thenE_n ?_
        refine W_ret ?_
        refine blockE_r ?_
        refine thenE_r ?_
        refine thenE_r ?_
        refine blockE_r ?_
        refine thenE_r ?_
        refine ret1 rfl rfl ?_
        first | (refine ⟨false, rfl, ffI fun hk => ?_, hE⟩; rcases hk with h | h; omega; exact hp15 (h.2.1 _ (List.getElem_mem (show i < xs.length by omega)))) | (refine ⟨false, rfl, ffI fun hk => ?_, hE⟩; rcases hk with h | h; omega; exact take_nodup h.2.2 (show i < xs.length by omega) hp22) | (exact ⟨true, rfl, ttI (.inl (by omega)), hE⟩) | (refine ⟨_, rfl, ⟨fun ho => .inr ⟨of_decide_eq_true ho, fun x hx => (all_of_idx (p := fun x => 1 ≤ x ∧ x ≤ 999999) (fun j h1 h2 => (hJ j h1 h2).1) (by omega) x hx), nodup_take fun j h2 => (hJ j (by omega) h2).2⟩, fun hk => decide_eq_true (by rcases hk with h | h; omega; exact h.1)⟩, hE⟩)
      · have hp22 := ttN hb22 hg22
        refine W_skip ?_
        refine blockE_n ?_
        refine thenE_n ?_
        refine W_region ?_
        refine WL_q rfl (ev_add rfl rfl (by omega)) ?_
        refine WL_q rfl (ev_move rfl) ?_
        refine WL_nil ?_
        refine thenE_n ?_
        exact ⟨i + 1, (Subs.c rfl (Subs.c rfl (Subs.c rfl (Subs.c rfl Subs.n)))), (Subs.c (lkI rfl (by omega)) Subs.n), ⟨hRL0, ⟨by omega, dsucc (P := fun j h2 => (1 ≤ xs[j] ∧ xs[j] ≤ 999999) ∧ xs[j] ∉ xs.take j) hJ (by omega) ⟨hp15, hp22⟩⟩⟩, by first | omega | (dsimp only; omega)⟩
  · have hp10 := of_decide_eq_false hg10
    refine W_exit ?_
    refine thenE_x ?_
    refine thenE_x ?_
    refine blockE_hit ?_
    refine thenE_n ?_
    refine W_seq ?_
    refine W_region ?_
    refine WL_q rfl (ev_move rfl) ?_
    refine WL_q rfl (ev_len Try.underlying23 rfl) ?_
    refine WL_q rfl (ev_eql rfl rfl) ?_
    refine WL_q rfl (ev_move rfl) ?_
    refine WL_splitv (t := 28) rfl (fun hg27 => ?_) (fun hg27 => ?_)
    · have hp27 := of_decide_eq_true hg27
      refine WL_no rfl rfl hg27 rfl ?_
      refine WL_no rfl rfl hg27 rfl ?_
      refine WL_no rfl rfl hg27 rfl ?_
      refine WL_no rfl rfl hg27 rfl ?_
      refine WL_q rfl (ev_pick_t rfl hg27 rfl) ?_
      refine WL_q rfl (ev_assign rfl) ?_
      refine WL_nil ?_
      refine thenE_n ?_
      refine W_ret ?_
      refine ret1 rfl rfl ?_
      first | (refine ⟨false, rfl, ffI fun hk => ?_, hE⟩; rcases hk with h | h; omega; exact hp15 (h.2.1 _ (List.getElem_mem (show i < xs.length by omega)))) | (refine ⟨false, rfl, ffI fun hk => ?_, hE⟩; rcases hk with h | h; omega; exact take_nodup h.2.2 (show i < xs.length by omega) hp22) | (exact ⟨true, rfl, ttI (.inl (by omega)), hE⟩) | (refine ⟨_, rfl, ⟨fun ho => .inr ⟨of_decide_eq_true ho, fun x hx => (all_of_idx (p := fun x => 1 ≤ x ∧ x ≤ 999999) (fun j h1 h2 => (hJ j h1 h2).1) (by omega) x hx), nodup_take fun j h2 => (hJ j (by omega) h2).2⟩, fun hk => decide_eq_true (by rcases hk with h | h; omega; exact h.1)⟩, hE⟩)
    · have hp27 := of_decide_eq_false hg27
      refine WL_qg rfl rfl hg27 rfl (ev_move rfl) ?_
      refine WL_qg rfl rfl hg27 rfl (ev_len Try.underlying23 rfl) ?_
      refine WL_qg rfl rfl hg27 rfl (ev_move rfl) ?_
      refine WL_qg rfl rfl hg27 rfl (ev_eql rfl rfl) ?_
      refine WL_q rfl (ev_pick_f rfl hg27 rfl) ?_
      refine WL_q rfl (ev_assign rfl) ?_
      refine WL_nil ?_
      refine thenE_n ?_
      refine W_ret ?_
      refine ret1 rfl rfl ?_
      first | (refine ⟨false, rfl, ffI fun hk => ?_, hE⟩; rcases hk with h | h; omega; exact hp15 (h.2.1 _ (List.getElem_mem (show i < xs.length by omega)))) | (refine ⟨false, rfl, ffI fun hk => ?_, hE⟩; rcases hk with h | h; omega; exact take_nodup h.2.2 (show i < xs.length by omega) hp22) | (exact ⟨true, rfl, ttI (.inl (by omega)), hE⟩) | (refine ⟨_, rfl, ⟨fun ho => .inr ⟨of_decide_eq_true ho, fun x hx => (all_of_idx (p := fun x => 1 ≤ x ∧ x ≤ 999999) (fun j h1 h2 => (hJ j h1 h2).1) (by omega) x hx), nodup_take fun j h2 => (hJ j (by omega) h2).2⟩, fun hk => decide_eq_true (by rcases hk with h | h; omega; exact h.1)⟩, hE⟩)

set_option maxHeartbeats 2000000 in
set_option maxRecDepth 100000 in
theorem IsNetwork_spec {lo hi : Nat} (h : NA) (n : Net) (w : World) (hN : IsNet lo hi w h n) (hhi : hi ≤ w.heap.size) (hn : totN n ≤ 1048576) :
    Fn Try.prog 16 #[netV h n] w (fun v w' => ∃ b, v = VB b ∧ (b = true ↔ NOk n) ∧ Ext w w') := by
  unfold totN at hn
  have hq1 := totL_len n.ends
  have hE := Ext.refl w
  refine Fn_of Try.func16 rfl rfl (by kernel_rfl) rfl ?_
  refine W_seq ?_
  refine W_region ?_
  refine WL_m rfl (ev_box rfl) ?_
  rintro _ w1 ⟨rfl, hN1⟩
  have hz1 := hN1.size
  replace hE := hE.trans hN1.ext
  replace hN := hN.ext hN1.ext
  have hB1 : Blk w1 _ _ [_, _, _] := hN1.blk
  refine WL_q rfl (ev_assign rfl) ?_
  refine WL_nil ?_
  refine thenE_n ?_
  refine W_seq ?_
  refine W_seq ?_
  refine W_region ?_
  refine WL_q rfl (ev_fieldAddr fo31_0 rfl) ?_
  refine WL_q rfl (ev_load one29 rfl (hB1.cell rfl)) ?_
  refine WL_q rfl (ev_len Try.underlying29 rfl) ?_
  refine WL_m rfl (ev_call rfl (within_spec _ _ _ _)) ?_
  rintro _ _ ⟨rfl, rfl⟩
  refine WL_q rfl (ev_not rfl) ?_
  refine WL_q rfl (ev_move rfl) ?_
  refine WL_splitv (t := 12) rfl (fun hg11 => ?_) (fun hg11 => ?_)
  · have hg10 := not_true hg11
    have hp10 := inR_false.1 hg10
    refine WL_no rfl rfl hg11 rfl ?_
    refine WL_no rfl rfl hg11 rfl ?_
    refine WL_no rfl rfl hg11 rfl ?_
    refine WL_no rfl rfl hg11 rfl ?_
    refine WL_no rfl rfl hg11 rfl ?_
    refine WL_no rfl rfl hg11 rfl ?_
    refine WL_no rfl rfl hg11 rfl ?_
    refine WL_q rfl (ev_pick_t rfl hg11 rfl) ?_
    refine WL_q rfl (ev_move rfl) ?_
    refine WL_no rfl rfl rfl rfl ?_
    refine WL_no rfl rfl rfl rfl ?_
    refine WL_no rfl rfl rfl rfl ?_
    refine WL_no rfl rfl rfl rfl ?_
    refine WL_no rfl rfl rfl rfl ?_
    refine WL_no rfl rfl rfl rfl ?_
    refine WL_no rfl rfl rfl rfl ?_
    refine WL_q rfl (ev_pick_t rfl rfl rfl) ?_
    refine WL_nil ?_
    refine thenE_n ?_
    refine W_cond_t rfl ?_
    refine W_seq ?_
    refine W_region ?_
    refine WL_q rfl (ev_assign rfl) ?_
    refine WL_nil ?_
    refine thenE_n ?_
    refine W_ret ?_
    refine thenE_r ?_
    refine ret1 rfl rfl ?_
    first | (exact ⟨false, rfl, ffI fun hk => hp10 hk.nodes, hE⟩) | (exact ⟨false, rfl, ffI fun hk => hp18 hk.ids, hE⟩) | (exact ⟨false, rfl, ffI fun hk => hp27 ⟨hk.inLen, hk.inputs⟩, hE⟩) | (refine ⟨false, rfl, ffI fun hk => ?_, hE⟩; have := (hk.rows i hlt).1; omega) | (exact ⟨false, rfl, ffI fun hk => hp53 (hk.endOk hlt hlt2).port, hE⟩) | (exact ⟨false, rfl, ffI fun hk => (hk.endOk hlt hlt2).no1 hp69, hE⟩) | (exact ⟨true, rfl, ttI ⟨hp10, hp18, hp27.1, hp27.2, fun v h2 => hJ v (by omega) h2⟩, hE⟩)
  · have hg10 := not_false hg11
    have hp10 := inR_true.1 hg10
    refine WL_qg rfl rfl hg11 rfl (ev_fieldAddr fo31_1 rfl) ?_
    refine WL_qg rfl rfl hg11 rfl (ev_load one23 rfl (hB1.cell rfl)) ?_
    refine WL_qg rfl rfl hg11 rfl (ev_fieldAddr fo31_0 rfl) ?_
    refine WL_qg rfl rfl hg11 rfl (ev_load one29 rfl (hB1.cell rfl)) ?_
    refine WL_qg rfl rfl hg11 rfl (ev_len Try.underlying29 rfl) ?_
    refine WL_mg rfl rfl hg11 rfl (ev_call rfl (idsOk_spec _ _ _ _ _ hN.ids (by omega) (by omega))) ?_
    rintro _ w18 ⟨b18, rfl, hb18, hE18⟩
    have hz18 := hE18.size
    replace hE := hE.trans hE18
    replace hN := hN.ext hE18
    replace hB1 := hB1.ext hE18
    refine WL_qg rfl rfl hg11 rfl (ev_not rfl) ?_
    refine WL_q rfl (ev_pick_f rfl hg11 rfl) ?_
    refine WL_q rfl (ev_move rfl) ?_
    refine WL_splitv (t := 21) rfl (fun hg19 => ?_) (fun hg19 => ?_)
    · have hg18 := not_true hg19
      have hp18 := ttN hb18 hg18
      refine WL_no rfl rfl hg19 rfl ?_
      refine WL_no rfl rfl hg19 rfl ?_
      refine WL_no rfl rfl hg19 rfl ?_
      refine WL_no rfl rfl hg19 rfl ?_
      refine WL_no rfl rfl hg19 rfl ?_
      refine WL_no rfl rfl hg19 rfl ?_
      refine WL_no rfl rfl hg19 rfl ?_
      refine WL_q rfl (ev_pick_t rfl hg19 rfl) ?_
      refine WL_nil ?_
      refine thenE_n ?_
      refine W_cond_t rfl ?_
      refine W_seq ?_
      refine W_region ?_
      refine WL_q rfl (ev_assign rfl) ?_
      refine WL_nil ?_
      refine thenE_n ?_
      refine W_ret ?_
      refine thenE_r ?_
      refine ret1 rfl rfl ?_
      first | (exact ⟨false, rfl, ffI fun hk => hp10 hk.nodes, hE⟩) | (exact ⟨false, rfl, ffI fun hk => hp18 hk.ids, hE⟩) | (exact ⟨false, rfl, ffI fun hk => hp27 ⟨hk.inLen, hk.inputs⟩, hE⟩) | (refine ⟨false, rfl, ffI fun hk => ?_, hE⟩; have := (hk.rows i hlt).1; omega) | (exact ⟨false, rfl, ffI fun hk => hp53 (hk.endOk hlt hlt2).port, hE⟩) | (exact ⟨false, rfl, ffI fun hk => (hk.endOk hlt hlt2).no1 hp69, hE⟩) | (exact ⟨true, rfl, ttI ⟨hp10, hp18, hp27.1, hp27.2, fun v h2 => hJ v (by omega) h2⟩, hE⟩)
    · have hg18 := not_false hg19
      have hp18 := hb18.1 hg18
      refine WL_qg rfl rfl hg19 rfl (ev_fieldAddr fo31_2 rfl) ?_
      refine WL_qg rfl rfl hg19 rfl (ev_load one23 rfl (hB1.cell rfl)) ?_
      refine WL_qg rfl rfl hg19 rfl (ev_fieldAddr fo31_0 rfl) ?_
      refine WL_qg rfl rfl hg19 rfl (ev_load one29 rfl (hB1.cell rfl)) ?_
      refine WL_qg rfl rfl hg19 rfl (ev_len Try.underlying29 rfl) ?_
      refine WL_mg rfl rfl hg19 rfl (ev_call rfl (inputsOk_spec _ _ _ _ _ hN.inputs (by omega))) ?_
      rintro _ w27 ⟨b27, rfl, hb27, hE27⟩
      have hz27 := hE27.size
      replace hE := hE.trans hE27
      replace hN := hN.ext hE27
      replace hB1 := hB1.ext hE27
      refine WL_qg rfl rfl hg19 rfl (ev_not rfl) ?_
      refine WL_q rfl (ev_pick_f rfl hg19 rfl) ?_
      refine WL_nil ?_
      refine thenE_n ?_
      refine W_cond rfl (fun hg28 => ?_) (fun hg28 => ?_)
      · have hg27 := not_true hg28
        have hp27 := ttN hb27 hg27
        refine W_seq ?_
        refine W_region ?_
        refine WL_q rfl (ev_assign rfl) ?_
        refine WL_nil ?_
        refine thenE_n ?_
        refine W_ret ?_
        refine thenE_r ?_
        refine ret1 rfl rfl ?_
        first | (exact ⟨false, rfl, ffI fun hk => hp10 hk.nodes, hE⟩) | (exact ⟨false, rfl, ffI fun hk => hp18 hk.ids, hE⟩) | (exact ⟨false, rfl, ffI fun hk => hp27 ⟨hk.inLen, hk.inputs⟩, hE⟩) | (refine ⟨false, rfl, ffI fun hk => ?_, hE⟩; have := (hk.rows i hlt).1; omega) | (exact ⟨false, rfl, ffI fun hk => hp53 (hk.endOk hlt hlt2).port, hE⟩) | (exact ⟨false, rfl, ffI fun hk => (hk.endOk hlt hlt2).no1 hp69, hE⟩) | (exact ⟨true, rfl, ttI ⟨hp10, hp18, hp27.1, hp27.2, fun v h2 => hJ v (by omega) h2⟩, hE⟩)
      · have hg27 := not_false hg28
        have hp27 := hb27.1 hg27
        refine W_skip ?_
        refine thenE_n ?_
        refine W_seq ?_
        refine W_seq ?_
        refine W_region ?_
        refine WL_q rfl (ev_fieldAddr fo31_0 rfl) ?_
        refine WL_q rfl (ev_load one29 rfl (hB1.cell rfl)) ?_
        refine WL_q rfl (ev_len Try.underlying29 rfl) ?_
        refine WL_q rfl (ev_move rfl) ?_
        refine WL_nil ?_
        refine thenE_n ?_
        refine W_block ?_
        refine W_loopC (G := Nat) [(1, _), (31, _), (32, _)] ((Subs.c rfl (Subs.c rfl (Subs.c rfl Subs.n)))) (fun i => [(33, VI (i : Int))]) (fun i w' => Ext w27 w' ∧ i ≤ n.ends.length ∧ ∀ j (_h : j < i) (h2 : j < n.ends.length), RowOk n j n.ends[j]) (fun i => n.ends.length - i) 0 ((Subs.c (lkI rfl (by omega)) Subs.n)) (⟨Ext.refl _, ⟨by omega, fun j h => by omega⟩⟩) ?_
        rintro i wL0 ⟨hRL0, hi', hJ⟩
        have hzL0 := hRL0.size
        replace hE := hE.trans hRL0
        replace hN := hN.ext hRL0
        replace hB1 := hB1.ext hRL0
        refine W_seq ?_
        refine W_region ?_
        refine WL_q rfl (ev_lss rfl rfl) ?_
        refine WL_nil ?_
        refine thenE_n ?_
        refine W_seq ?_
        refine W_cond rfl (fun hg34 => ?_) (fun hg34 => ?_)
        · have hp34 := of_decide_eq_true hg34
          refine W_skip ?_
          refine thenE_n ?_
          refine W_seq ?_
          refine W_block ?_
          refine W_seq ?_
          refine W_region ?_
          refine WL_q rfl (ev_move rfl) ?_
          have hlt : i < n.ends.length := by omega
          have htl := totL_le hlt
          obtain ⟨a2, c2, hc2, hr2⟩ := hN.ends.row hlt
          refine WL_q rfl (ev_indexAddr Try.underlying29 sz46 rfl rfl (hN.ends.isSome (by omega)) (by omega) (by omega)) ?_
          refine WL_q rfl (ev_load one46 rfl (hc2)) ?_
          refine WL_q rfl (ev_assign rfl) ?_
          refine WL_q rfl (ev_assign rfl) ?_
          refine WL_nil ?_
          refine thenE_n ?_
          refine W_seq ?_
          refine W_seq ?_
          refine W_region ?_
          refine WL_q rfl (ev_move rfl) ?_
          refine WL_q rfl (ev_len Try.underlying46 rfl) ?_
          refine WL_q rfl (ev_gtr rfl rfl) ?_
          refine WL_nil ?_
          refine thenE_n ?_
          refine W_cond rfl (fun hg40 => ?_) (fun hg40 => ?_)
          · have hp40 := of_decide_eq_true hg40
            refine W_seq ?_
            refine W_region ?_
            refine WL_q rfl (ev_assign rfl) ?_
            refine WL_nil ?_
            refine thenE_n ?_
            refine W_ret ?_
            refine thenE_r ?_
            refine blockE_r ?_
            refine thenE_r ?_
            refine thenE_r ?_
            refine blockE_r ?_
            refine thenE_r ?_
            refine ret1 rfl rfl ?_
            first | (exact ⟨false, rfl, ffI fun hk => hp10 hk.nodes, hE⟩) | (exact ⟨false, rfl, ffI fun hk => hp18 hk.ids, hE⟩) | (exact ⟨false, rfl, ffI fun hk => hp27 ⟨hk.inLen, hk.inputs⟩, hE⟩) | (refine ⟨false, rfl, ffI fun hk => ?_, hE⟩; have := (hk.rows i hlt).1; omega) | (exact ⟨false, rfl, ffI fun hk => hp53 (hk.endOk hlt hlt2).port, hE⟩) | (exact ⟨false, rfl, ffI fun hk => (hk.endOk hlt hlt2).no1 hp69, hE⟩) | (exact ⟨true, rfl, ttI ⟨hp10, hp18, hp27.1, hp27.2, fun v h2 => hJ v (by omega) h2⟩, hE⟩)
          · have hp40 := of_decide_eq_false hg40
            refine W_skip ?_
            refine thenE_n ?_
            refine W_seq ?_
            refine W_region ?_
            refine WL_q rfl (ev_move rfl) ?_
            refine WL_q rfl (ev_len Try.underlying46 rfl) ?_
            refine WL_q rfl (ev_move rfl) ?_
            refine WL_nil ?_
            refine thenE_n ?_
            refine W_block ?_
            refine W_loopC (G := Nat) [(1, _), (3, _), (31, _), (32, _), (33, _), (41, _), (42, _)] ((Subs.c rfl (Subs.c rfl (Subs.c rfl (Subs.c rfl (Subs.c rfl (Subs.c rfl (Subs.c rfl Subs.n)))))))) (fun k => [(43, VI (k : Int))]) (fun k w' => Ext wL0 w' ∧ k ≤ n.ends[i].length ∧ ∀ j (_h : j < k) (h2 : j < n.ends[i].length), EndOk n i j n.ends[i][j]) (fun k => n.ends[i].length - k) 0 ((Subs.c (lkI rfl (by omega)) Subs.n)) (⟨Ext.refl _, ⟨by omega, fun j h => by omega⟩⟩) ?_
            rintro k wL2 ⟨hRL2, hk', hJ2⟩
            have hzL2 := hRL2.size
            replace hE := hE.trans hRL2
            replace hRL0 := hRL0.trans hRL2
            replace hN := hN.ext hRL2
            replace hB1 := hB1.ext hRL2
            replace hr2 := hr2.ext hRL2
            refine W_seq ?_
            refine W_region ?_
            refine WL_q rfl (ev_lss rfl rfl) ?_
            refine WL_nil ?_
            refine thenE_n ?_
            refine W_seq ?_
            refine W_cond rfl (fun hg44 => ?_) (fun hg44 => ?_)
            · have hp44 := of_decide_eq_true hg44
              refine W_skip ?_
              refine thenE_n ?_
              refine W_seq ?_
              refine W_block ?_
              refine W_seq ?_
              refine W_region ?_
              refine WL_q rfl (ev_move rfl) ?_
              have hlt2 : k < n.ends[i].length := by omega
              refine WL_q rfl (ev_indexAddr Try.underlying46 sz61 rfl rfl (hr2.isSome (by omega)) (by omega) (by omega)) ?_
              refine WL_q rfl (ev_loads st61 sz61 rfl (hr2.cells (i := k) (by omega)) rfl) ?_
              refine WL_m rfl (ev_alloc zr61) ?_
              rintro _ w6 ⟨rfl, hN6⟩
              have hz6 := hN6.size
              replace hE := hE.trans hN6.ext
              replace hRL0 := hRL0.trans hN6.ext
              replace hRL2 := hRL2.trans hN6.ext
              replace hN := hN.ext hN6.ext
              replace hB1 := hB1.ext hN6.ext
              replace hr2 := hr2.ext hN6.ext
              have hB6 : Blk w6 _ _ [_, _] := hN6.blk
              refine WL_q rfl (ev_assign rfl) ?_
              refine WL_s (ev_stores sz61 rfl rfl rfl (by simp [Value.oneCell']) hB6 (by simp)) ?_
              rintro _ w10_5 hS10_5
              have hz10_5 := hS10_5.size
              replace hE := hE.sto hS10_5 (by omega)
              replace hRL0 := hRL0.sto hS10_5 (by omega)
              replace hRL2 := hRL2.sto hS10_5 (by omega)
              replace hN := hN.sto hS10_5 (by omega)
              replace hB1 := hB1.sto hS10_5 (by omega)
              replace hr2 := hr2.sto hS10_5 (by omega)
              replace hB6 : Blk w10_5 _ _ [_, _] := hS10_5.blk
              refine WL_nil ?_
              refine thenE_n ?_
              refine W_seq ?_
              refine W_drawE [(0, true), (1, true), (2, true), (3, true), (4, true), (5, false), (6, true), (7, true), (8, true), (9, true), (10, true), (11, true), (12, true), (13, true), (14, true), (15, true), (16, true), (17, true), (18, true), (19, true), (20, true), (21, true), (22, true)] mixed (by kernel_rfl) rfl (by kernel_rfl) ?_
              intro wd11 hEd11 hzd11
              replace hE := hE.trans hEd11
              replace hRL0 := hRL0.trans hEd11
              replace hRL2 := hRL2.trans hEd11
              replace hN := hN.ext hEd11
              replace hB1 := hB1.ext hEd11
              replace hr2 := hr2.ext hEd11
              replace hB6 := hB6.ext hEd11
              have hDd11 := Ext.refl wd11
              refine PW_q rfl rfl (fun wq hq => ev_loads st31 sz31 rfl (cellsB (hq.blk hB1)) rfl) ?_
              refine PW_q rfl rfl (fun wq hq => ev_fieldAddr fo61_0 rfl) ?_
              refine PW_q rfl rfl (fun wq hq => ev_load one3 rfl (hq.cell (hB6.cell rfl))) ?_
              refine PW_q rfl rfl (fun wq hq => ev_fieldAddr fo61_1 rfl) ?_
              refine PW_q rfl rfl (fun wq hq => ev_load one3 rfl (hq.cell (hB6.cell rfl))) ?_
              refine PW_m rfl rfl (ev_call rfl (hasPort_spec h n _ _ _ hN (by omega))) ?_
              rintro _ w53 ⟨b53, rfl, hb53, hE53⟩
              have hz53 := hE53.size
              replace hE := hE.trans hE53
              replace hRL0 := hRL0.trans hE53
              replace hRL2 := hRL2.trans hE53
              replace hDd11 := hDd11.trans hE53
              refine ⟨hDd11, ?_⟩
              refine PW_q rfl rfl (fun wq hq => ev_not rfl) ?_
              refine PW_q rfl rfl (fun wq hq => ev_move rfl) ?_
              refine PW_splitv (t := 55) rfl (fun hg54 => ?_) (fun hg54 => ?_)
              · have hg53 := not_true hg54
                have hp53 := ttN hb53 hg53
                refine PW_no rfl rfl rfl hg54 rfl ?_
                refine PW_no rfl rfl rfl hg54 rfl ?_
                refine PW_no rfl rfl rfl hg54 rfl ?_
                refine PW_no rfl rfl rfl hg54 rfl ?_
                refine PW_no rfl rfl rfl hg54 rfl ?_
                refine PW_no rfl rfl rfl hg54 rfl ?_
                refine PW_no rfl rfl rfl hg54 rfl ?_
                refine PW_no rfl rfl rfl hg54 rfl ?_
                refine PW_no rfl rfl rfl hg54 rfl ?_
                refine PW_no rfl rfl rfl hg54 rfl ?_
                refine PW_no rfl rfl rfl hg54 rfl ?_
                refine PW_no rfl rfl rfl hg54 rfl ?_
                refine PW_no rfl rfl rfl hg54 rfl ?_
                refine PW_no rfl rfl rfl hg54 rfl ?_
                refine PW_q rfl rfl (fun wq hq => ev_pick_t rfl hg54 rfl) ?_
                replace hN := hN.ext hDd11
                replace hB1 := hB1.ext hDd11
                replace hr2 := hr2.ext hDd11
                replace hB6 := hB6.ext hDd11
                refine PW_nil ?_
                refine thenE_n ?_
                refine W_cond_t rfl ?_
                refine W_seq ?_
                refine W_region ?_
                refine WL_q rfl (ev_assign rfl) ?_
                refine WL_nil ?_
                refine thenE_n ?_
                refine W_ret ?_
                refine blockE_r ?_
                refine thenE_r ?_
                refine thenE_r ?_
                refine blockE_r ?_
                refine blockE_r ?_
                refine thenE_r ?_
                refine thenE_r ?_
                refine blockE_r ?_
                refine thenE_r ?_
                refine ret1 rfl rfl ?_
                first | (exact ⟨false, rfl, ffI fun hk => hp10 hk.nodes, hE⟩) | (exact ⟨false, rfl, ffI fun hk => hp18 hk.ids, hE⟩) | (exact ⟨false, rfl, ffI fun hk => hp27 ⟨hk.inLen, hk.inputs⟩, hE⟩) | (refine ⟨false, rfl, ffI fun hk => ?_, hE⟩; have := (hk.rows i hlt).1; omega) | (exact ⟨false, rfl, ffI fun hk => hp53 (hk.endOk hlt hlt2).port, hE⟩) | (exact ⟨false, rfl, ffI fun hk => (hk.endOk hlt hlt2).no1 hp69, hE⟩) | (exact ⟨true, rfl, ttI ⟨hp10, hp18, hp27.1, hp27.2, fun v h2 => hJ v (by omega) h2⟩, hE⟩)
              · have hg53 := not_false hg54
                have hp53 := hb53.1 hg53
                refine PW_qg rfl rfl rfl hg54 rfl (fun wq hq => ev_fieldAddr fo31_0 rfl) ?_
                refine PW_qg rfl rfl rfl hg54 rfl (fun wq hq => ev_load one29 rfl (hq.cell (hB1.cell rfl))) ?_
                refine PW_qg rfl rfl rfl hg54 rfl (fun wq hq => ev_fieldAddr fo61_0 rfl) ?_
                refine PW_qg rfl rfl rfl hg54 rfl (fun wq hq => ev_load one3 rfl (hq.cell (hB6.cell rfl))) ?_
                obtain ⟨hv1, hv2, hv3, hv4⟩ := hp53
                obtain ⟨a3, c3, hc3, hr3⟩ := hN.ends.row hv2
                refine PW_qg rfl rfl rfl hg54 rfl (fun wq hq => ev_indexAddr Try.underlying29 sz46 rfl rfl (hN.ends.isSome (by omega)) hv1 (by omega)) ?_
                refine PW_qg rfl rfl rfl hg54 rfl (fun wq hq => ev_load one46 rfl (hq.cell (hc3))) ?_
                refine PW_qg rfl rfl rfl hg54 rfl (fun wq hq => ev_fieldAddr fo61_1 rfl) ?_
                refine PW_qg rfl rfl rfl hg54 rfl (fun wq hq => ev_load one3 rfl (hq.cell (hB6.cell rfl))) ?_
                refine PW_qg rfl rfl rfl hg54 rfl (fun wq hq => ev_indexAddr Try.underlying46 sz61 rfl rfl (hr3.isSome (by omega)) hv3 (by omega)) ?_
                have hc65 := hr3.cells (i := n.ends[i][k].2.toNat) (by omega)
                refine PW_qg rfl rfl rfl hg54 rfl (fun wq hq => ev_loads st61 sz61 rfl (hq.cells (hc65)) rfl) ?_
                refine PW_qg rfl rfl rfl hg54 rfl (fun wq hq => ev_move rfl) ?_
                refine PW_qg rfl rfl rfl hg54 rfl (fun wq hq => ev_move rfl) ?_
                refine PW_qg rfl rfl rfl hg54 rfl (fun wq hq => ev_build2 sn61_2 rfl rfl rfl rfl) ?_
                refine PW_qg rfl rfl rfl hg54 rfl (fun wq hq => ev_neq_pair pr61 rfl rfl) ?_
                refine PW_q rfl rfl (fun wq hq => ev_pick_f rfl hg54 rfl) ?_
                replace hN := hN.ext hDd11
                replace hB1 := hB1.ext hDd11
                replace hr2 := hr2.ext hDd11
                replace hB6 := hB6.ext hDd11
                refine PW_nil ?_
                refine thenE_n ?_
                refine W_cond rfl (fun hg69 => ?_) (fun hg69 => ?_)
                · have hp69 := of_decide_eq_true hg69
                  refine W_seq ?_
                  refine W_region ?_
                  refine WL_q rfl (ev_assign rfl) ?_
                  refine WL_nil ?_
                  refine thenE_n ?_
                  refine W_ret ?_
                  refine blockE_r ?_
                  refine thenE_r ?_
                  refine thenE_r ?_
                  refine blockE_r ?_
                  refine blockE_r ?_
                  refine thenE_r ?_
                  refine thenE_r ?_
                  refine blockE_r ?_
                  refine thenE_r ?_
                  refine ret1 rfl rfl ?_
                  first | (exact ⟨false, rfl, ffI fun hk => hp10 hk.nodes, hE⟩) | (exact ⟨false, rfl, ffI fun hk => hp18 hk.ids, hE⟩) | (exact ⟨false, rfl, ffI fun hk => hp27 ⟨hk.inLen, hk.inputs⟩, hE⟩) | (refine ⟨false, rfl, ffI fun hk => ?_, hE⟩; have := (hk.rows i hlt).1; omega) | (exact ⟨false, rfl, ffI fun hk => hp53 (hk.endOk hlt hlt2).port, hE⟩) | (exact ⟨false, rfl, ffI fun hk => (hk.endOk hlt hlt2).no1 hp69, hE⟩) | (exact ⟨true, rfl, ttI ⟨hp10, hp18, hp27.1, hp27.2, fun v h2 => hJ v (by omega) h2⟩, hE⟩)
                · have hp69 := of_decide_eq_false hg69
                  refine W_skip ?_
                  refine blockE_n ?_
                  refine thenE_n ?_
                  refine W_region ?_
                  refine WL_q rfl (ev_add rfl rfl (by omega)) ?_
                  refine WL_q rfl (ev_move rfl) ?_
                  refine WL_nil ?_
                  refine thenE_n ?_
                  exact ⟨k + 1, (Subs.c rfl (Subs.c rfl (Subs.c rfl (Subs.c rfl (Subs.c rfl (Subs.c rfl (Subs.c rfl Subs.n))))))), (Subs.c (lkI rfl (by omega)) Subs.n), ⟨hRL2, ⟨by omega, dsucc (P := fun j h2 => EndOk n i j n.ends[i][j]) hJ2 hlt2 ⟨hv1, hv2, hv3, hv4, Prod.ext (by omega) (by omega)⟩⟩⟩, by first | omega | (dsimp only; omega)⟩
            · have hp44 := of_decide_eq_false hg44
              refine W_exit ?_
              refine thenE_x ?_
              refine thenE_x ?_
              refine blockE_hit ?_
              refine blockE_n ?_
              refine thenE_n ?_
              refine W_region ?_
              refine WL_q rfl (ev_add rfl rfl (by omega)) ?_
              refine WL_q rfl (ev_move rfl) ?_
              refine WL_nil ?_
              refine thenE_n ?_
              exact ⟨i + 1, (Subs.c rfl (Subs.c rfl (Subs.c rfl Subs.n))), (Subs.c (lkI rfl (by omega)) Subs.n), ⟨hRL0, ⟨by omega, dsucc (P := fun j h2 => RowOk n j n.ends[j]) hJ hlt ⟨by omega, fun j h2 => hJ2 j (by omega) h2⟩⟩⟩, by first | omega | (dsimp only; omega)⟩
        · have hp34 := of_decide_eq_false hg34
          refine W_exit ?_
          refine thenE_x ?_
          refine thenE_x ?_
          refine blockE_hit ?_
          refine thenE_n ?_
          refine W_seq ?_
          refine W_region ?_
          refine WL_q rfl (ev_assign rfl) ?_
          refine WL_nil ?_
          refine thenE_n ?_
          refine W_ret ?_
          refine ret1 rfl rfl ?_
          first | (exact ⟨false, rfl, ffI fun hk => hp10 hk.nodes, hE⟩) | (exact ⟨false, rfl, ffI fun hk => hp18 hk.ids, hE⟩) | (exact ⟨false, rfl, ffI fun hk => hp27 ⟨hk.inLen, hk.inputs⟩, hE⟩) | (refine ⟨false, rfl, ffI fun hk => ?_, hE⟩; have := (hk.rows i hlt).1; omega) | (exact ⟨false, rfl, ffI fun hk => hp53 (hk.endOk hlt hlt2).port, hE⟩) | (exact ⟨false, rfl, ffI fun hk => (hk.endOk hlt hlt2).no1 hp69, hE⟩) | (exact ⟨true, rfl, ttI ⟨hp10, hp18, hp27.1, hp27.2, fun v h2 => hJ v (by omega) h2⟩, hE⟩)

set_option maxHeartbeats 2000000 in
set_option maxRecDepth 100000 in
theorem neGood_spec {lo hi : Nat} (h : NA) (n : Net) (w : World) (hN : IsNet lo hi w h n) (hhi : hi ≤ w.heap.size) (hn : totN n ≤ 1048576) :
    Fn Try.prog 27 #[netV h n] w (fun v w' => ∃ b, v = VB b ∧ (b = true ↔ NOk n) ∧ Ext w w') := by
  unfold totN at hn
  have hq1 := totL_len n.ends
  have hE := Ext.refl w
  refine Fn_of Try.func27 rfl rfl (by kernel_rfl) rfl ?_
  refine W_seq ?_
  refine W_region ?_
  refine WL_m rfl (ev_box rfl) ?_
  rintro _ w1 ⟨rfl, hN1⟩
  have hz1 := hN1.size
  replace hE := hE.trans hN1.ext
  replace hN := hN.ext hN1.ext
  have hB1 : Blk w1 _ _ [_, _, _] := hN1.blk
  refine WL_q rfl (ev_assign rfl) ?_
  refine WL_nil ?_
  refine thenE_n ?_
  refine W_seq ?_
  refine W_seq ?_
  refine W_region ?_
  refine WL_q rfl (ev_fieldAddr fo31_0 rfl) ?_
  refine WL_q rfl (ev_load one29 rfl (hB1.cell rfl)) ?_
  refine WL_q rfl (ev_len Try.underlying29 rfl) ?_
  refine WL_m rfl (ev_call rfl (l1In_spec _ _ _ _)) ?_
  rintro _ _ ⟨rfl, rfl⟩
  refine WL_q rfl (ev_not rfl) ?_
  refine WL_q rfl (ev_move rfl) ?_
  refine WL_splitv (t := 12) rfl (fun hg11 => ?_) (fun hg11 => ?_)
  · have hg10 := not_true hg11
    have hp10 := inR_false.1 hg10
    refine WL_no rfl rfl hg11 rfl ?_
    refine WL_no rfl rfl hg11 rfl ?_
    refine WL_no rfl rfl hg11 rfl ?_
    refine WL_no rfl rfl hg11 rfl ?_
    refine WL_no rfl rfl hg11 rfl ?_
    refine WL_no rfl rfl hg11 rfl ?_
    refine WL_no rfl rfl hg11 rfl ?_
    refine WL_q rfl (ev_pick_t rfl hg11 rfl) ?_
    refine WL_q rfl (ev_move rfl) ?_
    refine WL_no rfl rfl rfl rfl ?_
    refine WL_no rfl rfl rfl rfl ?_
    refine WL_no rfl rfl rfl rfl ?_
    refine WL_no rfl rfl rfl rfl ?_
    refine WL_no rfl rfl rfl rfl ?_
    refine WL_no rfl rfl rfl rfl ?_
    refine WL_no rfl rfl rfl rfl ?_
    refine WL_q rfl (ev_pick_t rfl rfl rfl) ?_
    refine WL_q rfl (ev_move rfl) ?_
    refine WL_no rfl rfl rfl rfl ?_
    refine WL_no rfl rfl rfl rfl ?_
    refine WL_no rfl rfl rfl rfl ?_
    refine WL_no rfl rfl rfl rfl ?_
    refine WL_q rfl (ev_pick_t rfl rfl rfl) ?_
    refine WL_nil ?_
    refine thenE_n ?_
    refine W_cond_t rfl ?_
    refine W_seq ?_
    refine W_region ?_
    refine WL_q rfl (ev_assign rfl) ?_
    refine WL_nil ?_
    refine thenE_n ?_
    refine W_ret ?_
    refine thenE_r ?_
    refine ret1 rfl rfl ?_
    first | (exact ⟨false, rfl, ffI fun hk => hp10 hk.nodes, hE⟩) | (exact ⟨false, rfl, ffI fun hk => hp18 hk.ids, hE⟩) | (exact ⟨false, rfl, ffI fun hk => hp28 hk.inLen, hE⟩) | (exact ⟨false, rfl, ffI fun hk => tf hg33 hk.inputs, hE⟩) | (refine ⟨false, rfl, ffI fun hk => ?_, hE⟩; have := (hk.rows i hlt).1; omega) | (refine ⟨false, rfl, ffI fun hk => ?_, hE⟩; obtain ⟨q1, q2, q3, q4⟩ := (hk.endOk hlt hlt2).port; omega) | (exact ⟨false, rfl, ffI fun hk => (hk.endOk hlt hlt2).no1 hp90, hE⟩) | (exact ⟨true, rfl, ttI ⟨hp10, hp18, by omega, hg33, fun v h2 => hJ v (by omega) h2⟩, hE⟩)
  · have hg10 := not_false hg11
    have hp10 := inR_true.1 hg10
    refine WL_qg rfl rfl hg11 rfl (ev_fieldAddr fo31_1 rfl) ?_
    refine WL_qg rfl rfl hg11 rfl (ev_load one23 rfl (hB1.cell rfl)) ?_
    refine WL_qg rfl rfl hg11 rfl (ev_fieldAddr fo31_0 rfl) ?_
    refine WL_qg rfl rfl hg11 rfl (ev_load one29 rfl (hB1.cell rfl)) ?_
    refine WL_qg rfl rfl hg11 rfl (ev_len Try.underlying29 rfl) ?_
    refine WL_mg rfl rfl hg11 rfl (ev_call rfl (neIds_spec _ _ _ _ _ hN.ids (by omega))) ?_
    rintro _ w18 ⟨b18, rfl, hb18, hE18⟩
    have hz18 := hE18.size
    replace hE := hE.trans hE18
    replace hN := hN.ext hE18
    replace hB1 := hB1.ext hE18
    refine WL_qg rfl rfl hg11 rfl (ev_not rfl) ?_
    refine WL_q rfl (ev_pick_f rfl hg11 rfl) ?_
    refine WL_q rfl (ev_move rfl) ?_
    refine WL_splitv (t := 21) rfl (fun hg19 => ?_) (fun hg19 => ?_)
    · have hg18 := not_true hg19
      have hp18 := ttN hb18 hg18
      refine WL_no rfl rfl hg19 rfl ?_
      refine WL_no rfl rfl hg19 rfl ?_
      refine WL_no rfl rfl hg19 rfl ?_
      refine WL_no rfl rfl hg19 rfl ?_
      refine WL_no rfl rfl hg19 rfl ?_
      refine WL_no rfl rfl hg19 rfl ?_
      refine WL_no rfl rfl hg19 rfl ?_
      refine WL_q rfl (ev_pick_t rfl hg19 rfl) ?_
      refine WL_q rfl (ev_move rfl) ?_
      refine WL_no rfl rfl rfl rfl ?_
      refine WL_no rfl rfl rfl rfl ?_
      refine WL_no rfl rfl rfl rfl ?_
      refine WL_no rfl rfl rfl rfl ?_
      refine WL_q rfl (ev_pick_t rfl rfl rfl) ?_
      refine WL_nil ?_
      refine thenE_n ?_
      refine W_cond_t rfl ?_
      refine W_seq ?_
      refine W_region ?_
      refine WL_q rfl (ev_assign rfl) ?_
      refine WL_nil ?_
      refine thenE_n ?_
      refine W_ret ?_
      refine thenE_r ?_
      refine ret1 rfl rfl ?_
      first | (exact ⟨false, rfl, ffI fun hk => hp10 hk.nodes, hE⟩) | (exact ⟨false, rfl, ffI fun hk => hp18 hk.ids, hE⟩) | (exact ⟨false, rfl, ffI fun hk => hp28 hk.inLen, hE⟩) | (exact ⟨false, rfl, ffI fun hk => tf hg33 hk.inputs, hE⟩) | (refine ⟨false, rfl, ffI fun hk => ?_, hE⟩; have := (hk.rows i hlt).1; omega) | (refine ⟨false, rfl, ffI fun hk => ?_, hE⟩; obtain ⟨q1, q2, q3, q4⟩ := (hk.endOk hlt hlt2).port; omega) | (exact ⟨false, rfl, ffI fun hk => (hk.endOk hlt hlt2).no1 hp90, hE⟩) | (exact ⟨true, rfl, ttI ⟨hp10, hp18, by omega, hg33, fun v h2 => hJ v (by omega) h2⟩, hE⟩)
    · have hg18 := not_false hg19
      have hp18 := hb18.1 hg18
      refine WL_qg rfl rfl hg19 rfl (ev_fieldAddr fo31_2 rfl) ?_
      refine WL_qg rfl rfl hg19 rfl (ev_load one23 rfl (hB1.cell rfl)) ?_
      refine WL_qg rfl rfl hg19 rfl (ev_len Try.underlying23 rfl) ?_
      refine WL_qg rfl rfl hg19 rfl (ev_fieldAddr fo31_0 rfl) ?_
      refine WL_qg rfl rfl hg19 rfl (ev_load one29 rfl (hB1.cell rfl)) ?_
      refine WL_qg rfl rfl hg19 rfl (ev_len Try.underlying29 rfl) ?_
      refine WL_qg rfl rfl hg19 rfl (ev_neq rfl rfl) ?_
      refine WL_q rfl (ev_pick_f rfl hg19 rfl) ?_
      refine WL_q rfl (ev_move rfl) ?_
      refine WL_splitv (t := 30) rfl (fun hg28 => ?_) (fun hg28 => ?_)
      · have hp28 := of_decide_eq_true hg28
        refine WL_no rfl rfl hg28 rfl ?_
        refine WL_no rfl rfl hg28 rfl ?_
        refine WL_no rfl rfl hg28 rfl ?_
        refine WL_no rfl rfl hg28 rfl ?_
        refine WL_q rfl (ev_pick_t rfl hg28 rfl) ?_
        refine WL_nil ?_
        refine thenE_n ?_
        refine W_cond_t rfl ?_
        refine W_seq ?_
        refine W_region ?_
        refine WL_q rfl (ev_assign rfl) ?_
        refine WL_nil ?_
        refine thenE_n ?_
        refine W_ret ?_
        refine thenE_r ?_
        refine ret1 rfl rfl ?_
        first | (exact ⟨false, rfl, ffI fun hk => hp10 hk.nodes, hE⟩) | (exact ⟨false, rfl, ffI fun hk => hp18 hk.ids, hE⟩) | (exact ⟨false, rfl, ffI fun hk => hp28 hk.inLen, hE⟩) | (exact ⟨false, rfl, ffI fun hk => tf hg33 hk.inputs, hE⟩) | (refine ⟨false, rfl, ffI fun hk => ?_, hE⟩; have := (hk.rows i hlt).1; omega) | (refine ⟨false, rfl, ffI fun hk => ?_, hE⟩; obtain ⟨q1, q2, q3, q4⟩ := (hk.endOk hlt hlt2).port; omega) | (exact ⟨false, rfl, ffI fun hk => (hk.endOk hlt hlt2).no1 hp90, hE⟩) | (exact ⟨true, rfl, ttI ⟨hp10, hp18, by omega, hg33, fun v h2 => hJ v (by omega) h2⟩, hE⟩)
      · have hp28 := of_decide_eq_false hg28
        refine WL_qg rfl rfl hg28 rfl (ev_fieldAddr fo31_2 rfl) ?_
        refine WL_qg rfl rfl hg28 rfl (ev_load one23 rfl (hB1.cell rfl)) ?_
        refine WL_mg rfl rfl hg28 rfl (ev_call rfl (l1All_spec _ _ _ _ _ _ hN.inputs (by omega))) ?_
        rintro _ w33 ⟨rfl, hE33⟩
        have hz33 := hE33.size
        replace hE := hE.trans hE33
        replace hN := hN.ext hE33
        replace hB1 := hB1.ext hE33
        refine WL_qg rfl rfl hg28 rfl (ev_not rfl) ?_
        refine WL_q rfl (ev_pick_f rfl hg28 rfl) ?_
        refine WL_nil ?_
        refine thenE_n ?_
        refine W_cond rfl (fun hg34 => ?_) (fun hg34 => ?_)
        · have hg33 := not_true hg34
          refine W_seq ?_
          refine W_region ?_
          refine WL_q rfl (ev_assign rfl) ?_
          refine WL_nil ?_
          refine thenE_n ?_
          refine W_ret ?_
          refine thenE_r ?_
          refine ret1 rfl rfl ?_
          first | (exact ⟨false, rfl, ffI fun hk => hp10 hk.nodes, hE⟩) | (exact ⟨false, rfl, ffI fun hk => hp18 hk.ids, hE⟩) | (exact ⟨false, rfl, ffI fun hk => hp28 hk.inLen, hE⟩) | (exact ⟨false, rfl, ffI fun hk => tf hg33 hk.inputs, hE⟩) | (refine ⟨false, rfl, ffI fun hk => ?_, hE⟩; have := (hk.rows i hlt).1; omega) | (refine ⟨false, rfl, ffI fun hk => ?_, hE⟩; obtain ⟨q1, q2, q3, q4⟩ := (hk.endOk hlt hlt2).port; omega) | (exact ⟨false, rfl, ffI fun hk => (hk.endOk hlt hlt2).no1 hp90, hE⟩) | (exact ⟨true, rfl, ttI ⟨hp10, hp18, by omega, hg33, fun v h2 => hJ v (by omega) h2⟩, hE⟩)
        · have hg33 := not_false hg34
          refine W_skip ?_
          refine thenE_n ?_
          refine W_seq ?_
          refine W_seq ?_
          refine W_region ?_
          refine WL_q rfl (ev_fieldAddr fo31_0 rfl) ?_
          refine WL_q rfl (ev_load one29 rfl (hB1.cell rfl)) ?_
          refine WL_q rfl (ev_len Try.underlying29 rfl) ?_
          refine WL_q rfl (ev_move rfl) ?_
          refine WL_nil ?_
          refine thenE_n ?_
          refine W_block ?_
          refine W_loopC (G := Nat) [(1, _), (37, _), (38, _)] ((Subs.c rfl (Subs.c rfl (Subs.c rfl Subs.n)))) (fun i => [(39, VI (i : Int))]) (fun i w' => Ext w33 w' ∧ i ≤ n.ends.length ∧ ∀ j (_h : j < i) (h2 : j < n.ends.length), RowOk n j n.ends[j]) (fun i => n.ends.length - i) 0 ((Subs.c (lkI rfl (by omega)) Subs.n)) (⟨Ext.refl _, ⟨by omega, fun j h => by omega⟩⟩) ?_
          rintro i wL0 ⟨hRL0, hi', hJ⟩
          have hzL0 := hRL0.size
          replace hE := hE.trans hRL0
          replace hN := hN.ext hRL0
          replace hB1 := hB1.ext hRL0
          refine W_seq ?_
          refine W_region ?_
          refine WL_q rfl (ev_lss rfl rfl) ?_
          refine WL_nil ?_
          refine thenE_n ?_
          refine W_seq ?_
          refine W_cond rfl (fun hg40 => ?_) (fun hg40 => ?_)
          · have hp40 := of_decide_eq_true hg40
            refine W_skip ?_
            refine thenE_n ?_
            refine W_seq ?_
            refine W_block ?_
            refine W_seq ?_
            refine W_region ?_
            refine WL_q rfl (ev_move rfl) ?_
            have hlt : i < n.ends.length := by omega
            have htl := totL_le hlt
            obtain ⟨a2, c2, hc2, hr2⟩ := hN.ends.row hlt
            refine WL_q rfl (ev_indexAddr Try.underlying29 sz46 rfl rfl (hN.ends.isSome (by omega)) (by omega) (by omega)) ?_
            refine WL_q rfl (ev_load one46 rfl (hc2)) ?_
            refine WL_q rfl (ev_assign rfl) ?_
            refine WL_q rfl (ev_assign rfl) ?_
            refine WL_nil ?_
            refine thenE_n ?_
            refine W_seq ?_
            refine W_seq ?_
            refine W_region ?_
            refine WL_q rfl (ev_move rfl) ?_
            refine WL_q rfl (ev_len Try.underlying46 rfl) ?_
            refine WL_q rfl (ev_gtr rfl rfl) ?_
            refine WL_nil ?_
            refine thenE_n ?_
            refine W_cond rfl (fun hg46 => ?_) (fun hg46 => ?_)
            · have hp46 := of_decide_eq_true hg46
              refine W_seq ?_
              refine W_region ?_
              refine WL_q rfl (ev_assign rfl) ?_
              refine WL_nil ?_
              refine thenE_n ?_
              refine W_ret ?_
              refine thenE_r ?_
              refine blockE_r ?_
              refine thenE_r ?_
              refine thenE_r ?_
              refine blockE_r ?_
              refine thenE_r ?_
              refine ret1 rfl rfl ?_
              first | (exact ⟨false, rfl, ffI fun hk => hp10 hk.nodes, hE⟩) | (exact ⟨false, rfl, ffI fun hk => hp18 hk.ids, hE⟩) | (exact ⟨false, rfl, ffI fun hk => hp28 hk.inLen, hE⟩) | (exact ⟨false, rfl, ffI fun hk => tf hg33 hk.inputs, hE⟩) | (refine ⟨false, rfl, ffI fun hk => ?_, hE⟩; have := (hk.rows i hlt).1; omega) | (refine ⟨false, rfl, ffI fun hk => ?_, hE⟩; obtain ⟨q1, q2, q3, q4⟩ := (hk.endOk hlt hlt2).port; omega) | (exact ⟨false, rfl, ffI fun hk => (hk.endOk hlt hlt2).no1 hp90, hE⟩) | (exact ⟨true, rfl, ttI ⟨hp10, hp18, by omega, hg33, fun v h2 => hJ v (by omega) h2⟩, hE⟩)
            · have hp46 := of_decide_eq_false hg46
              refine W_skip ?_
              refine thenE_n ?_
              refine W_seq ?_
              refine W_region ?_
              refine WL_q rfl (ev_move rfl) ?_
              refine WL_q rfl (ev_len Try.underlying46 rfl) ?_
              refine WL_q rfl (ev_move rfl) ?_
              refine WL_nil ?_
              refine thenE_n ?_
              refine W_block ?_
              refine W_loopC (G := Nat) [(1, _), (3, _), (37, _), (38, _), (39, _), (47, _), (48, _)] ((Subs.c rfl (Subs.c rfl (Subs.c rfl (Subs.c rfl (Subs.c rfl (Subs.c rfl (Subs.c rfl Subs.n)))))))) (fun k => [(49, VI (k : Int))]) (fun k w' => Ext wL0 w' ∧ k ≤ n.ends[i].length ∧ ∀ j (_h : j < k) (h2 : j < n.ends[i].length), EndOk n i j n.ends[i][j]) (fun k => n.ends[i].length - k) 0 ((Subs.c (lkI rfl (by omega)) Subs.n)) (⟨Ext.refl _, ⟨by omega, fun j h => by omega⟩⟩) ?_
              rintro k wL2 ⟨hRL2, hk', hJ2⟩
              have hzL2 := hRL2.size
              replace hE := hE.trans hRL2
              replace hRL0 := hRL0.trans hRL2
              replace hN := hN.ext hRL2
              replace hB1 := hB1.ext hRL2
              replace hr2 := hr2.ext hRL2
              refine W_seq ?_
              refine W_region ?_
              refine WL_q rfl (ev_lss rfl rfl) ?_
              refine WL_nil ?_
              refine thenE_n ?_
              refine W_seq ?_
              refine W_cond rfl (fun hg50 => ?_) (fun hg50 => ?_)
              · have hp50 := of_decide_eq_true hg50
                refine W_skip ?_
                refine thenE_n ?_
                refine W_seq ?_
                refine W_block ?_
                refine W_seq ?_
                refine W_region ?_
                refine WL_q rfl (ev_move rfl) ?_
                have hlt2 : k < n.ends[i].length := by omega
                refine WL_q rfl (ev_indexAddr Try.underlying46 sz61 rfl rfl (hr2.isSome (by omega)) (by omega) (by omega)) ?_
                refine WL_q rfl (ev_loads st61 sz61 rfl (hr2.cells (i := k) (by omega)) rfl) ?_
                refine WL_m rfl (ev_alloc zr61) ?_
                rintro _ w6 ⟨rfl, hN6⟩
                have hz6 := hN6.size
                replace hE := hE.trans hN6.ext
                replace hRL0 := hRL0.trans hN6.ext
                replace hRL2 := hRL2.trans hN6.ext
                replace hN := hN.ext hN6.ext
                replace hB1 := hB1.ext hN6.ext
                replace hr2 := hr2.ext hN6.ext
                have hB6 : Blk w6 _ _ [_, _] := hN6.blk
                refine WL_q rfl (ev_assign rfl) ?_
                refine WL_s (ev_stores sz61 rfl rfl rfl (by simp [Value.oneCell']) hB6 (by simp)) ?_
                rintro _ w10_5 hS10_5
                have hz10_5 := hS10_5.size
                replace hE := hE.sto hS10_5 (by omega)
                replace hRL0 := hRL0.sto hS10_5 (by omega)
                replace hRL2 := hRL2.sto hS10_5 (by omega)
                replace hN := hN.sto hS10_5 (by omega)
                replace hB1 := hB1.sto hS10_5 (by omega)
                replace hr2 := hr2.sto hS10_5 (by omega)
                replace hB6 : Blk w10_5 _ _ [_, _] := hS10_5.blk
                refine WL_nil ?_
                refine thenE_n ?_
                refine W_seq ?_
                refine W_drawE [(0, true), (1, true), (2, true), (3, true), (4, true), (5, true), (6, false), (7, true), (8, true), (9, true), (10, true), (11, true), (12, true), (13, true), (14, true), (15, true), (16, true), (17, true), (18, true), (19, false), (20, true), (21, true), (22, true), (23, true), (24, true), (25, true), (26, true), (27, true), (28, true), (29, true), (30, true), (31, true), (32, true), (33, true), (34, true), (35, true), (36, true), (37, true)] mixed (by kernel_rfl) rfl (by kernel_rfl) ?_
                intro wd11 hEd11 hzd11
                replace hE := hE.trans hEd11
                replace hRL0 := hRL0.trans hEd11
                replace hRL2 := hRL2.trans hEd11
                replace hN := hN.ext hEd11
                replace hB1 := hB1.ext hEd11
                replace hr2 := hr2.ext hEd11
                replace hB6 := hB6.ext hEd11
                have hDd11 := Ext.refl wd11
                refine PW_q rfl rfl (fun wq hq => ev_fieldAddr fo61_0 rfl) ?_
                refine PW_q rfl rfl (fun wq hq => ev_load one3 rfl (hq.cell (hB6.cell rfl))) ?_
                refine PW_q rfl rfl (fun wq hq => ev_fieldAddr fo31_0 rfl) ?_
                refine PW_q rfl rfl (fun wq hq => ev_load one29 rfl (hq.cell (hB1.cell rfl))) ?_
                refine PW_q rfl rfl (fun wq hq => ev_len Try.underlying29 rfl) ?_
                refine PW_q rfl rfl (fun wq hq => ev_sub rfl rfl (by omega)) ?_
                refine PW_m rfl rfl (ev_call rfl (l1In_spec _ _ _ _)) ?_
                rintro _ _ ⟨rfl, rfl⟩
                refine ⟨hDd11, ?_⟩
                refine PW_q rfl rfl (fun wq hq => ev_not rfl) ?_
                refine PW_q rfl rfl (fun wq hq => ev_move rfl) ?_
                refine PW_splitv (t := 62) rfl (fun hg61 => ?_) (fun hg61 => ?_)
                · have hg60 := not_true hg61
                  have hp60 := inR_false.1 hg60
                  refine PW_no rfl rfl rfl hg61 rfl ?_
                  refine PW_no rfl rfl rfl hg61 rfl ?_
                  refine PW_no rfl rfl rfl hg61 rfl ?_
                  refine PW_no rfl rfl rfl hg61 rfl ?_
                  refine PW_no rfl rfl rfl hg61 rfl ?_
                  refine PW_no rfl rfl rfl hg61 rfl ?_
                  refine PW_no rfl rfl rfl hg61 rfl ?_
                  refine PW_no rfl rfl rfl hg61 rfl ?_
                  refine PW_no rfl rfl rfl hg61 rfl ?_
                  refine PW_no rfl rfl rfl hg61 rfl ?_
                  refine PW_no rfl rfl rfl hg61 rfl ?_
                  refine PW_no rfl rfl rfl hg61 rfl ?_
                  refine PW_q rfl rfl (fun wq hq => ev_pick_t rfl hg61 rfl) ?_
                  refine PW_q rfl rfl (fun wq hq => ev_move rfl) ?_
                  refine PW_no rfl rfl rfl rfl rfl ?_
                  refine PW_no rfl rfl rfl rfl rfl ?_
                  refine PW_no rfl rfl rfl rfl rfl ?_
                  refine PW_no rfl rfl rfl rfl rfl ?_
                  refine PW_no rfl rfl rfl rfl rfl ?_
                  refine PW_no rfl rfl rfl rfl rfl ?_
                  refine PW_no rfl rfl rfl rfl rfl ?_
                  refine PW_no rfl rfl rfl rfl rfl ?_
                  refine PW_no rfl rfl rfl rfl rfl ?_
                  refine PW_no rfl rfl rfl rfl rfl ?_
                  refine PW_no rfl rfl rfl rfl rfl ?_
                  refine PW_no rfl rfl rfl rfl rfl ?_
                  refine PW_no rfl rfl rfl rfl rfl ?_
                  refine PW_no rfl rfl rfl rfl rfl ?_
                  refine PW_q rfl rfl (fun wq hq => ev_pick_t rfl rfl rfl) ?_
                  replace hN := hN.ext hDd11
                  replace hB1 := hB1.ext hDd11
                  replace hr2 := hr2.ext hDd11
                  replace hB6 := hB6.ext hDd11
                  refine PW_nil ?_
                  refine thenE_n ?_
                  refine W_cond_t rfl ?_
                  refine W_seq ?_
                  refine W_region ?_
                  refine WL_q rfl (ev_assign rfl) ?_
                  refine WL_nil ?_
                  refine thenE_n ?_
                  refine W_ret ?_
                  refine blockE_r ?_
                  refine thenE_r ?_
                  refine thenE_r ?_
                  refine blockE_r ?_
                  refine blockE_r ?_
                  refine thenE_r ?_
                  refine thenE_r ?_
                  refine blockE_r ?_
                  refine thenE_r ?_
                  refine ret1 rfl rfl ?_
                  first | (exact ⟨false, rfl, ffI fun hk => hp10 hk.nodes, hE⟩) | (exact ⟨false, rfl, ffI fun hk => hp18 hk.ids, hE⟩) | (exact ⟨false, rfl, ffI fun hk => hp28 hk.inLen, hE⟩) | (exact ⟨false, rfl, ffI fun hk => tf hg33 hk.inputs, hE⟩) | (refine ⟨false, rfl, ffI fun hk => ?_, hE⟩; have := (hk.rows i hlt).1; omega) | (refine ⟨false, rfl, ffI fun hk => ?_, hE⟩; obtain ⟨q1, q2, q3, q4⟩ := (hk.endOk hlt hlt2).port; omega) | (exact ⟨false, rfl, ffI fun hk => (hk.endOk hlt hlt2).no1 hp90, hE⟩) | (exact ⟨true, rfl, ttI ⟨hp10, hp18, by omega, hg33, fun v h2 => hJ v (by omega) h2⟩, hE⟩)
                · have hg60 := not_false hg61
                  have hp60 := inR_true.1 hg60
                  refine PW_qg rfl rfl rfl hg61 rfl (fun wq hq => ev_fieldAddr fo61_1 rfl) ?_
                  refine PW_qg rfl rfl rfl hg61 rfl (fun wq hq => ev_load one3 rfl (hq.cell (hB6.cell rfl))) ?_
                  refine PW_qg rfl rfl rfl hg61 rfl (fun wq hq => ev_fieldAddr fo31_0 rfl) ?_
                  refine PW_qg rfl rfl rfl hg61 rfl (fun wq hq => ev_load one29 rfl (hq.cell (hB1.cell rfl))) ?_
                  refine PW_qg rfl rfl rfl hg61 rfl (fun wq hq => ev_fieldAddr fo61_0 rfl) ?_
                  refine PW_qg rfl rfl rfl hg61 rfl (fun wq hq => ev_load one3 rfl (hq.cell (hB6.cell rfl))) ?_
                  have hv1 := hp60.1
                  have hv2 : n.ends[i][k].1.toNat < n.ends.length := by omega
                  have htl2 := totL_le hv2
                  obtain ⟨a3, c3, hc3, hr3⟩ := hN.ends.row hv2
                  refine PW_qg rfl rfl rfl hg61 rfl (fun wq hq => ev_indexAddr Try.underlying29 sz46 rfl rfl (hN.ends.isSome (by omega)) hv1 (by omega)) ?_
                  refine PW_qg rfl rfl rfl hg61 rfl (fun wq hq => ev_load one46 rfl (hq.cell (hc3))) ?_
                  refine PW_qg rfl rfl rfl hg61 rfl (fun wq hq => ev_len Try.underlying46 rfl) ?_
                  refine PW_qg rfl rfl rfl hg61 rfl (fun wq hq => ev_sub rfl rfl (by omega)) ?_
                  have hN_19 := hN.ext hDd11
                  have hB1_19 := hB1.ext hDd11
                  have hr2_19 := hr2.ext hDd11
                  have hB6_19 := hB6.ext hDd11
                  refine PW_mg rfl rfl rfl hg61 rfl (ev_call rfl (l1In_spec _ _ _ _)) ?_
                  rintro _ _ ⟨rfl, rfl⟩
                  refine ⟨hDd11, ?_⟩
                  refine PW_qg rfl rfl rfl hg61 rfl (fun wq hq => ev_not rfl) ?_
                  refine PW_q rfl rfl (fun wq hq => ev_pick_f rfl hg61 rfl) ?_
                  refine PW_q rfl rfl (fun wq hq => ev_move rfl) ?_
                  refine PW_splitv (t := 76) rfl (fun hg74 => ?_) (fun hg74 => ?_)
                  · have hg73 := not_true hg74
                    have hp73 := inR_false.1 hg73
                    refine PW_no rfl rfl rfl hg74 rfl ?_
                    refine PW_no rfl rfl rfl hg74 rfl ?_
                    refine PW_no rfl rfl rfl hg74 rfl ?_
                    refine PW_no rfl rfl rfl hg74 rfl ?_
                    refine PW_no rfl rfl rfl hg74 rfl ?_
                    refine PW_no rfl rfl rfl hg74 rfl ?_
                    refine PW_no rfl rfl rfl hg74 rfl ?_
                    refine PW_no rfl rfl rfl hg74 rfl ?_
                    refine PW_no rfl rfl rfl hg74 rfl ?_
                    refine PW_no rfl rfl rfl hg74 rfl ?_
                    refine PW_no rfl rfl rfl hg74 rfl ?_
                    refine PW_no rfl rfl rfl hg74 rfl ?_
                    refine PW_no rfl rfl rfl hg74 rfl ?_
                    refine PW_no rfl rfl rfl hg74 rfl ?_
                    refine PW_q rfl rfl (fun wq hq => ev_pick_t rfl hg74 rfl) ?_
                    replace hN := hN.ext hDd11
                    replace hB1 := hB1.ext hDd11
                    replace hr2 := hr2.ext hDd11
                    replace hB6 := hB6.ext hDd11
                    refine PW_nil ?_
                    refine thenE_n ?_
                    refine W_cond_t rfl ?_
                    refine W_seq ?_
                    refine W_region ?_
                    refine WL_q rfl (ev_assign rfl) ?_
                    refine WL_nil ?_
                    refine thenE_n ?_
                    refine W_ret ?_
                    refine blockE_r ?_
                    refine thenE_r ?_
                    refine thenE_r ?_
                    refine blockE_r ?_
                    refine blockE_r ?_
                    refine thenE_r ?_
                    refine thenE_r ?_
                    refine blockE_r ?_
                    refine thenE_r ?_
                    refine ret1 rfl rfl ?_
                    first | (exact ⟨false, rfl, ffI fun hk => hp10 hk.nodes, hE⟩) | (exact ⟨false, rfl, ffI fun hk => hp18 hk.ids, hE⟩) | (exact ⟨false, rfl, ffI fun hk => hp28 hk.inLen, hE⟩) | (exact ⟨false, rfl, ffI fun hk => tf hg33 hk.inputs, hE⟩) | (refine ⟨false, rfl, ffI fun hk => ?_, hE⟩; have := (hk.rows i hlt).1; omega) | (refine ⟨false, rfl, ffI fun hk => ?_, hE⟩; obtain ⟨q1, q2, q3, q4⟩ := (hk.endOk hlt hlt2).port; omega) | (exact ⟨false, rfl, ffI fun hk => (hk.endOk hlt hlt2).no1 hp90, hE⟩) | (exact ⟨true, rfl, ttI ⟨hp10, hp18, by omega, hg33, fun v h2 => hJ v (by omega) h2⟩, hE⟩)
                  · have hg73 := not_false hg74
                    have hp73 := inR_true.1 hg73
                    refine PW_qg rfl rfl rfl hg74 rfl (fun wq hq => ev_fieldAddr fo31_0 rfl) ?_
                    refine PW_qg rfl rfl rfl hg74 rfl (fun wq hq => ev_load one29 rfl (hq.cell (hB1.cell rfl))) ?_
                    refine PW_qg rfl rfl rfl hg74 rfl (fun wq hq => ev_fieldAddr fo61_0 rfl) ?_
                    refine PW_qg rfl rfl rfl hg74 rfl (fun wq hq => ev_load one3 rfl (hq.cell (hB6.cell rfl))) ?_
                    refine PW_qg rfl rfl rfl hg74 rfl (fun wq hq => ev_indexAddr Try.underlying29 sz46 rfl rfl (hN.ends.isSome (by omega)) hv1 (by omega)) ?_
                    refine PW_qg rfl rfl rfl hg74 rfl (fun wq hq => ev_load one46 rfl (hq.cell (hc3))) ?_
                    refine PW_qg rfl rfl rfl hg74 rfl (fun wq hq => ev_fieldAddr fo61_1 rfl) ?_
                    refine PW_qg rfl rfl rfl hg74 rfl (fun wq hq => ev_load one3 rfl (hq.cell (hB6.cell rfl))) ?_
                    have hv3 := hp73.1
                    have hv4 : n.ends[i][k].2.toNat < n.ends[n.ends[i][k].1.toNat].length := by omega
                    refine PW_qg rfl rfl rfl hg74 rfl (fun wq hq => ev_indexAddr Try.underlying46 sz61 rfl rfl (hr3.isSome (by omega)) hp73.1 (by omega)) ?_
                    have hc86 := hr3.cells (i := n.ends[i][k].2.toNat) (by omega)
                    refine PW_qg rfl rfl rfl hg74 rfl (fun wq hq => ev_loads st61 sz61 rfl (hq.cells (hc86)) rfl) ?_
                    refine PW_qg rfl rfl rfl hg74 rfl (fun wq hq => ev_move rfl) ?_
                    refine PW_qg rfl rfl rfl hg74 rfl (fun wq hq => ev_move rfl) ?_
                    refine PW_qg rfl rfl rfl hg74 rfl (fun wq hq => ev_build2 sn61_2 rfl rfl rfl rfl) ?_
                    refine PW_qg rfl rfl rfl hg74 rfl (fun wq hq => ev_neq_pair pr61 rfl rfl) ?_
                    refine PW_q rfl rfl (fun wq hq => ev_pick_f rfl hg74 rfl) ?_
                    replace hN := hN.ext hDd11
                    replace hB1 := hB1.ext hDd11
                    replace hr2 := hr2.ext hDd11
                    replace hB6 := hB6.ext hDd11
                    refine PW_nil ?_
                    refine thenE_n ?_
                    refine W_cond rfl (fun hg90 => ?_) (fun hg90 => ?_)
                    · have hp90 := of_decide_eq_true hg90
                      refine W_seq ?_
                      refine W_region ?_
                      refine WL_q rfl (ev_assign rfl) ?_
                      refine WL_nil ?_
                      refine thenE_n ?_
                      refine W_ret ?_
                      refine blockE_r ?_
                      refine thenE_r ?_
                      refine thenE_r ?_
                      refine blockE_r ?_
                      refine blockE_r ?_
                      refine thenE_r ?_
                      refine thenE_r ?_
                      refine blockE_r ?_
                      refine thenE_r ?_
                      refine ret1 rfl rfl ?_
                      first | (exact ⟨false, rfl, ffI fun hk => hp10 hk.nodes, hE⟩) | (exact ⟨false, rfl, ffI fun hk => hp18 hk.ids, hE⟩) | (exact ⟨false, rfl, ffI fun hk => hp28 hk.inLen, hE⟩) | (exact ⟨false, rfl, ffI fun hk => tf hg33 hk.inputs, hE⟩) | (refine ⟨false, rfl, ffI fun hk => ?_, hE⟩; have := (hk.rows i hlt).1; omega) | (refine ⟨false, rfl, ffI fun hk => ?_, hE⟩; obtain ⟨q1, q2, q3, q4⟩ := (hk.endOk hlt hlt2).port; omega) | (exact ⟨false, rfl, ffI fun hk => (hk.endOk hlt hlt2).no1 hp90, hE⟩) | (exact ⟨true, rfl, ttI ⟨hp10, hp18, by omega, hg33, fun v h2 => hJ v (by omega) h2⟩, hE⟩)
                    · have hp90 := of_decide_eq_false hg90
                      refine W_skip ?_
                      refine blockE_n ?_
                      refine thenE_n ?_
                      refine W_region ?_
                      refine WL_q rfl (ev_add rfl rfl (by omega)) ?_
                      refine WL_q rfl (ev_move rfl) ?_
                      refine WL_nil ?_
                      refine thenE_n ?_
                      exact ⟨k + 1, (Subs.c rfl (Subs.c rfl (Subs.c rfl (Subs.c rfl (Subs.c rfl (Subs.c rfl (Subs.c rfl Subs.n))))))), (Subs.c (lkI rfl (by omega)) Subs.n), ⟨hRL2, ⟨by omega, dsucc (P := fun j h2 => EndOk n i j n.ends[i][j]) hJ2 hlt2 ⟨hv1, hv2, hv3, hv4, Prod.ext (by omega) (by omega)⟩⟩⟩, by first | omega | (dsimp only; omega)⟩
              · have hp50 := of_decide_eq_false hg50
                refine W_exit ?_
                refine thenE_x ?_
                refine thenE_x ?_
                refine blockE_hit ?_
                refine blockE_n ?_
                refine thenE_n ?_
                refine W_region ?_
                refine WL_q rfl (ev_add rfl rfl (by omega)) ?_
                refine WL_q rfl (ev_move rfl) ?_
                refine WL_nil ?_
                refine thenE_n ?_
                exact ⟨i + 1, (Subs.c rfl (Subs.c rfl (Subs.c rfl Subs.n))), (Subs.c (lkI rfl (by omega)) Subs.n), ⟨hRL0, ⟨by omega, dsucc (P := fun j h2 => RowOk n j n.ends[j]) hJ hlt ⟨by omega, fun j h2 => hJ2 j (by omega) h2⟩⟩⟩, by first | omega | (dsimp only; omega)⟩
          · have hp40 := of_decide_eq_false hg40
            refine W_exit ?_
            refine thenE_x ?_
            refine thenE_x ?_
            refine blockE_hit ?_
            refine thenE_n ?_
            refine W_seq ?_
            refine W_region ?_
            refine WL_q rfl (ev_assign rfl) ?_
            refine WL_nil ?_
            refine thenE_n ?_
            refine W_ret ?_
            refine ret1 rfl rfl ?_
            first | (exact ⟨false, rfl, ffI fun hk => hp10 hk.nodes, hE⟩) | (exact ⟨false, rfl, ffI fun hk => hp18 hk.ids, hE⟩) | (exact ⟨false, rfl, ffI fun hk => hp28 hk.inLen, hE⟩) | (exact ⟨false, rfl, ffI fun hk => tf hg33 hk.inputs, hE⟩) | (refine ⟨false, rfl, ffI fun hk => ?_, hE⟩; have := (hk.rows i hlt).1; omega) | (refine ⟨false, rfl, ffI fun hk => ?_, hE⟩; obtain ⟨q1, q2, q3, q4⟩ := (hk.endOk hlt hlt2).port; omega) | (exact ⟨false, rfl, ffI fun hk => (hk.endOk hlt hlt2).no1 hp90, hE⟩) | (exact ⟨true, rfl, ttI ⟨hp10, hp18, by omega, hg33, fun v h2 => hJ v (by omega) h2⟩, hE⟩)

set_option maxRecDepth 100000 in
theorem eqNetwork_spec {lo hi lo2 hi2 : Nat} (h h2 : NA) (n : Net) (w : World) (hN : IsNet lo hi w h n) (hM2 : IsNet lo2 hi2 w h2 n) (hn : totN n ≤ 1048576) :
    Fn Try.prog 8 #[netV h n, netV h2 n] w (fun v w' => v = VB true ∧ Ext w w') := by
  unfold totN at hn
  have hE := Ext.refl w
  refine Fn_of Try.func8 rfl rfl (by kernel_rfl) rfl ?_
  refine W_seq ?_
  refine W_region ?_
  refine WL_m rfl (ev_box rfl) ?_
  rintro _ w2 ⟨rfl, hN2⟩
  have hz2 := hN2.size
  replace hE := hE.trans hN2.ext
  replace hN := hN.ext hN2.ext
  replace hM2 := hM2.ext hN2.ext
  have hB2 : Blk w2 _ _ [_, _, _] := hN2.blk
  refine WL_m rfl (ev_box rfl) ?_
  rintro _ w3 ⟨rfl, hN3⟩
  have hz3 := hN3.size
  replace hE := hE.trans hN3.ext
  replace hN := hN.ext hN3.ext
  replace hM2 := hM2.ext hN3.ext
  replace hB2 := hB2.ext hN3.ext
  have hB3 : Blk w3 _ _ [_, _, _] := hN3.blk
  refine WL_q rfl (ev_assign rfl) ?_
  refine WL_nil ?_
  refine thenE_n ?_
  refine W_seq ?_
  refine W_seq ?_
  refine W_region ?_
  refine WL_q rfl (ev_fieldAddr fo31_0 rfl) ?_
  refine WL_q rfl (ev_load one29 rfl (hB2.cell rfl)) ?_
  refine WL_q rfl (ev_fieldAddr fo31_0 rfl) ?_
  refine WL_q rfl (ev_load one29 rfl (hB3.cell rfl)) ?_
  refine WL_m rfl (ev_call rfl (eqEndSS_spec _ _ _ _ _ _ _ hN.ends hM2.ends (by omega))) ?_
  rintro _ w9 ⟨rfl, hE9⟩
  have hz9 := hE9.size
  replace hE := hE.trans hE9
  replace hN := hN.ext hE9
  replace hM2 := hM2.ext hE9
  replace hB2 := hB2.ext hE9
  replace hB3 := hB3.ext hE9
  refine WL_q rfl (ev_not rfl) ?_
  refine WL_nil ?_
  refine thenE_n ?_
  refine W_cond rfl (fun hg10 => ?_) (fun hg10 => ?_)
  · have hg9 := not_true hg10
    refine W_seq ?_
    refine W_region ?_
    refine WL_q rfl (ev_assign rfl) ?_
    refine WL_nil ?_
    refine thenE_n ?_
    refine W_ret ?_
    refine thenE_r ?_
    refine ret1 rfl rfl ?_
    first | (exact ⟨rfl, hE⟩) | (exact (decF hg9).elim) | (exact (decF hg15).elim) | (exact (decF hg21).elim)
  · have hg9 := not_false hg10
    refine W_skip ?_
    refine thenE_n ?_
    refine W_seq ?_
    refine W_seq ?_
    refine W_region ?_
    refine WL_q rfl (ev_fieldAddr fo31_1 rfl) ?_
    refine WL_q rfl (ev_load one23 rfl (hB2.cell rfl)) ?_
    refine WL_q rfl (ev_fieldAddr fo31_1 rfl) ?_
    refine WL_q rfl (ev_load one23 rfl (hB3.cell rfl)) ?_
    refine WL_m rfl (ev_call rfl (eqIntS_spec _ _ _ _ _ _ _ hN.ids hM2.ids (by omega))) ?_
    rintro _ w15 ⟨rfl, hE15⟩
    have hz15 := hE15.size
    replace hE := hE.trans hE15
    replace hN := hN.ext hE15
    replace hM2 := hM2.ext hE15
    replace hB2 := hB2.ext hE15
    replace hB3 := hB3.ext hE15
    refine WL_q rfl (ev_not rfl) ?_
    refine WL_nil ?_
    refine thenE_n ?_
    refine W_cond rfl (fun hg16 => ?_) (fun hg16 => ?_)
    · have hg15 := not_true hg16
      refine W_seq ?_
      refine W_region ?_
      refine WL_q rfl (ev_assign rfl) ?_
      refine WL_nil ?_
      refine thenE_n ?_
      refine W_ret ?_
      refine thenE_r ?_
      refine ret1 rfl rfl ?_
      first | (exact ⟨rfl, hE⟩) | (exact (decF hg9).elim) | (exact (decF hg15).elim) | (exact (decF hg21).elim)
    · have hg15 := not_false hg16
      refine W_skip ?_
      refine thenE_n ?_
      refine W_seq ?_
      refine W_seq ?_
      refine W_region ?_
      refine WL_q rfl (ev_fieldAddr fo31_2 rfl) ?_
      refine WL_q rfl (ev_load one23 rfl (hB2.cell rfl)) ?_
      refine WL_q rfl (ev_fieldAddr fo31_2 rfl) ?_
      refine WL_q rfl (ev_load one23 rfl (hB3.cell rfl)) ?_
      refine WL_m rfl (ev_call rfl (eqIntS_spec _ _ _ _ _ _ _ hN.inputs hM2.inputs (by omega))) ?_
      rintro _ w21 ⟨rfl, hE21⟩
      have hz21 := hE21.size
      replace hE := hE.trans hE21
      replace hN := hN.ext hE21
      replace hM2 := hM2.ext hE21
      replace hB2 := hB2.ext hE21
      replace hB3 := hB3.ext hE21
      refine WL_q rfl (ev_not rfl) ?_
      refine WL_nil ?_
      refine thenE_n ?_
      refine W_cond rfl (fun hg22 => ?_) (fun hg22 => ?_)
      · have hg21 := not_true hg22
        refine W_seq ?_
        refine W_region ?_
        refine WL_q rfl (ev_assign rfl) ?_
        refine WL_nil ?_
        refine thenE_n ?_
        refine W_ret ?_
        refine thenE_r ?_
        refine ret1 rfl rfl ?_
        first | (exact ⟨rfl, hE⟩) | (exact (decF hg9).elim) | (exact (decF hg15).elim) | (exact (decF hg21).elim)
      · have hg21 := not_false hg22
        refine W_skip ?_
        refine thenE_n ?_
        refine W_seq ?_
        refine W_region ?_
        refine WL_q rfl (ev_assign rfl) ?_
        refine WL_nil ?_
        refine thenE_n ?_
        refine W_ret ?_
        refine ret1 rfl rfl ?_
        first | (exact ⟨rfl, hE⟩) | (exact (decF hg9).elim) | (exact (decF hg15).elim) | (exact (decF hg21).elim)

end Go.Proofs.Yticlopepmnlkmaa
