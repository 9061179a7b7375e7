/- Contracts of ReachableStates, of the program and of the reference; the walk of FnExactReachableStates. -/
import Derived.Test.YtjhgpcbbmhdojaaNetwork
import Derived.Test.YtjhgpcbbmhdojaaMark
namespace Go.Proofs.Ytjhgpcbbmhdojaa
open Go Go.RowKit

theorem Ints.vals {lo hi : Nat} {w : World} {a : Option Addr} {c : Nat} {xs : List Int} (h : Ints lo hi w a c xs) : SAt lo hi w a (xs.map VI) := h.sat
theorem oneVI (xs : List Int) : ∀ u ∈ xs.map VI, u.oneCell' = true := by intro u hu; obtain ⟨x, _, rfl⟩ := List.mem_map.1 hu; rfl
theorem Ints.dropV {lo hi : Nat} {w : World} {a : Option Addr} {c : Nat} {xs : List Int} (h : Ints lo hi w a c xs) (i : Nat) : SAt lo hi w (if c = ((i : Nat) : Int).toNat then a else a.map (·.add (((i : Nat) : Int).toNat * 1))) ((xs.drop i).map VI) := by
  have hc := h.cap
  have := h.vals.drop c i (fun e => by simp; omega)
  rw [← List.map_drop] at this
  rw [Nat.mul_one]; exact this
/-- ys is xs with x put in. -/
def PutR (xs : List Int) (x : Int) (ys : List Int) : Prop := xs.Pairwise (· < ·) → ys.Pairwise (· < ·) ∧ (∀ y, y ∈ ys ↔ y = x ∨ y ∈ xs) ∧ xs.length ≤ ys.length ∧ (x ∉ xs → xs.length < ys.length)
theorem put_same {xs : List Int} {x : Int} {i : Nat} (h : i < xs.length) (he : xs[i] = x) : PutR xs x xs := fun hs =>
  have hm : x ∈ xs := he ▸ List.getElem_mem h
  ⟨hs, fun y => ⟨.inr, fun hy => by rcases hy with rfl | hy; exact hm; exact hy⟩, Nat.le_refl _, fun hn => absurd hm hn⟩
theorem put_new {xs : List Int} {x : Int} {i : Nat} (hi : i ≤ xs.length) (h1 : ∀ j (_h : j < i) (h2 : j < xs.length), xs[j] < x) (h2 : ∀ h : i < xs.length, x < xs[i]) : PutR xs x (xs.take i ++ [x] ++ xs.drop i) := by
  intro hs
  have hp := List.pairwise_iff_getElem.1 hs
  have hlt : ∀ y ∈ xs.take i, y < x := fun y hy => by
    obtain ⟨j, hj, rfl⟩ := List.mem_take_iff_getElem.1 hy
    exact h1 j (by omega) (by omega)
  have hgt : ∀ y ∈ xs.drop i, x < y := fun y hy => by
    obtain ⟨j, hj, rfl⟩ := List.mem_drop_iff_getElem.1 hy
    have h3 := h2 (by omega)
    by_cases h0 : j = 0
    · subst h0; simpa using h3
    · have := hp i (i + j) (by omega) (by omega) (by omega)
      omega
  refine ⟨?_, fun y => ?_, by simp; omega, fun _ => by simp; omega⟩
  · rw [List.append_assoc, List.pairwise_append, List.singleton_append, List.pairwise_cons]
    refine ⟨hs.sublist (List.take_sublist _ _), ⟨hgt, hs.sublist (List.drop_sublist _ _)⟩, fun a ha b hb => ?_⟩
    rcases List.mem_cons.1 hb with rfl | hb
    · exact hlt a ha
    · have := hlt a ha; have := hgt b hb; omega
  · have e : (y ∈ xs) ↔ (y ∈ xs.take i ∨ y ∈ xs.drop i) := by rw [← List.mem_append, List.take_append_drop]
    simp only [List.mem_append, List.mem_singleton, e]
    constructor
    · rintro ((h | h) | h)
      · exact .inr (.inl h)
      · exact .inl h
      · exact .inr (.inr h)
    · rintro (h | h | h)
      · exact .inl (.inr h)
      · exact .inl (.inl h)
      · exact .inr h
theorem Ints.of_own' {lo : Nat} {w : World} {E : TypeId} {a : Option Addr} {n c : Nat} {xs : List Int} {cs : List Value} (h : Own lo w E 1 a n c cs) (hc : cs = xs.map VI) : n = xs.length ∧ Ints 0 w.heap.size w a c xs := by
  have hl := h.cap.2
  rw [hc] at h hl
  have hn : xs.length = n := by simpa using hl
  exact ⟨hn.symm, (Ints.of_own hn h).mono (Nat.zero_le _) (Nat.le_refl _)⟩

set_option maxRecDepth 100000 in
theorem l1Put_spec {hi : Nat} (a : Option Addr) (c : Nat) (xs : List Int) (x : Int) (w : World) (hx : Ints 0 hi w a c xs) (hhi : hi ≤ w.heap.size) (hm : xs.length ≤ 1048576) :
    Fn Try.prog 72 #[.slice a xs.length c, VI x] w (fun v w' => ∃ a' c' ys, v = .slice a' ys.length c' ∧ Ints 0 w'.heap.size w' a' c' ys ∧ PutR xs x ys ∧ Ext w w') := by
  have hcap := hx.cap
  have hE := Ext.refl w
  refine Fn_of Try.func72 rfl rfl (by kernel_rfl) rfl ?_
  refine W_seq ?_
  refine W_region ?_
  refine WL_q rfl (ev_assign rfl) ?_
  refine WL_nil ?_
  refine thenE_n ?_
  refine W_seq ?_
  refine W_region ?_
  refine WL_q rfl (ev_assign rfl) ?_
  refine WL_nil ?_
  refine thenE_n ?_
  refine W_seq ?_
  refine W_block ?_
  refine W_loopC (G := Nat) [(0, _), (1, _)] ((Subs.c rfl (Subs.c rfl Subs.n))) (fun i => [(5, VI (i : Int))]) (fun i w' => Ext w w' ∧ i ≤ xs.length ∧ ∀ j (_h : j < i) (h2 : j < xs.length), xs[j] < x) (fun i => xs.length - i) 0 ((Subs.c (lkI rfl (by omega)) Subs.n)) (⟨Ext.refl _, ⟨by omega, fun j h => by omega⟩⟩) ?_
  rintro i wL0 ⟨hRL0, hi', hJ⟩
  have hzL0 := hRL0.size
  replace hE := hE.trans hRL0
  replace hx := hx.ext hRL0
  refine W_seq ?_
  refine W_seq ?_
  refine W_region ?_
  refine WL_q rfl (ev_move rfl) ?_
  refine WL_q rfl (ev_move rfl) ?_
  refine WL_q rfl (ev_len Try.underlying33 rfl) ?_
  refine WL_q rfl (ev_lss rfl rfl) ?_
  refine WL_q rfl (ev_move rfl) ?_
  refine WL_splitv (t := 11) rfl (fun hg10 => ?_) (fun hg10 => ?_)
  · have hp10 := of_decide_eq_true hg10
    refine WL_qg rfl rfl hg10 rfl (ev_move rfl) ?_
    refine WL_qg rfl rfl hg10 rfl (ev_move rfl) ?_
    refine WL_qg rfl rfl hg10 rfl (ev_indexAddr Try.underlying33 sz3 rfl rfl (hx.isSome (by omega)) (by omega) (by omega)) ?_
    refine WL_qg rfl rfl hg10 rfl (ev_load one3 rfl (hx.cell (i := i) (by omega))) ?_
    refine WL_qg rfl rfl hg10 rfl (ev_move rfl) ?_
    refine WL_qg rfl rfl hg10 rfl (ev_lss rfl rfl) ?_
    refine WL_q rfl (ev_pick_t rfl hg10 rfl) ?_
    refine WL_nil ?_
    refine thenE_n ?_
    refine W_cond rfl (fun hg17 => ?_) (fun hg17 => ?_)
    · have hp17 := of_decide_eq_true hg17
      refine W_skip ?_
      refine thenE_n ?_
      refine W_block ?_
      refine W_region ?_
      refine WL_q rfl (ev_move rfl) ?_
      refine WL_q rfl (ev_add rfl rfl (by omega)) ?_
      refine WL_q rfl (ev_assign rfl) ?_
      refine WL_nil ?_
      refine blockE_n ?_
      refine thenE_n ?_
      exact ⟨i + 1, (Subs.c rfl (Subs.c rfl Subs.n)), (Subs.c (lkI rfl (by omega)) Subs.n), ⟨hRL0, ⟨by omega, dsucc (P := fun j h2 => xs[j] < x) hJ (by omega) hp17⟩⟩, by first | omega | (dsimp only; omega)⟩
    · have hp17 := of_decide_eq_false hg17
      refine W_exit ?_
      refine thenE_x ?_
      refine thenE_x ?_
      refine blockE_hit ?_
      refine thenE_n ?_
      refine W_seq ?_
      refine W_seq ?_
      refine W_region ?_
      refine WL_q rfl (ev_move rfl) ?_
      refine WL_q rfl (ev_move rfl) ?_
      refine WL_q rfl (ev_len Try.underlying33 rfl) ?_
      refine WL_q rfl (ev_lss rfl rfl) ?_
      refine WL_q rfl (ev_move rfl) ?_
      refine WL_splitv (t := 25) rfl (fun hg24 => ?_) (fun hg24 => ?_)
      · have hp24 := of_decide_eq_true hg24
        refine WL_qg rfl rfl hg24 rfl (ev_move rfl) ?_
        refine WL_qg rfl rfl hg24 rfl (ev_move rfl) ?_
        refine WL_qg rfl rfl hg24 rfl (ev_indexAddr Try.underlying33 sz3 rfl rfl (hx.isSome (by omega)) (by omega) (by omega)) ?_
        refine WL_qg rfl rfl hg24 rfl (ev_load one3 rfl (hx.cell (i := i) (by omega))) ?_
        refine WL_qg rfl rfl hg24 rfl (ev_move rfl) ?_
        refine WL_qg rfl rfl hg24 rfl (ev_eql rfl rfl) ?_
        refine WL_q rfl (ev_pick_t rfl hg24 rfl) ?_
        refine WL_nil ?_
        refine thenE_n ?_
        refine W_cond rfl (fun hg31 => ?_) (fun hg31 => ?_)
        · have hp31 := of_decide_eq_true hg31
          refine W_seq ?_
          refine W_region ?_
          refine WL_q rfl (ev_move rfl) ?_
          refine WL_q rfl (ev_assign rfl) ?_
          refine WL_nil ?_
          refine thenE_n ?_
          refine W_ret ?_
          refine thenE_r ?_
          refine ret1 rfl rfl ?_
          first | (exact ⟨_, _, xs, rfl, hx.mono (by omega) (by omega), put_same (by omega) hp31, hE⟩) | (obtain ⟨hn9, hI9⟩ := Ints.of_own' (xs := xs.take i ++ [x] ++ xs.drop i) hO (by simp); exact ⟨_, _, _, by rw [hn9], hI9, put_new hi' hJ (fun h => by omega), hE⟩)
        · have hp31 := of_decide_eq_false hg31
          refine W_skip ?_
          refine thenE_n ?_
          refine W_seq ?_
          refine W_region ?_
          refine WL_m rfl (ev_lit0 Try.underlying33 el3) ?_
          rintro _ w34 ⟨rfl, hN34⟩
          have hz34 := hN34.size
          replace hE := hE.trans hN34.ext
          replace hRL0 := hRL0.trans hN34.ext
          replace hx := hx.ext hN34.ext
          have hB34 := hN34.blk
          have hO := Own.of_new (n := 0) (sz := 1) hN34 rfl (by decide)
          refine WL_q rfl (ev_move rfl) ?_
          refine WL_q rfl (ev_move rfl) ?_
          refine WL_q rfl (ev_slice_hi Try.underlying33 sz3 rfl rfl (by omega) (by omega)) ?_
          refine WL_m rfl (ev_append Try.underlying33 el3 rfl (by decide) rfl rfl hO (hx.take i).vals (by simp; omega) (oneVI _) (by omega) (by unfold maxLen; omega) (by omega)) ?_
          rintro _ w38 ⟨a38, c38, rfl, hO38, hK38, hQ38⟩
          have hz38 := hK38.size
          replace hE := hE.app hK38 (fun q hq => by have := (hO.block q hq).1; omega)
          replace hRL0 := hRL0.app hK38 (fun q hq => by have := (hO.block q hq).1; omega)
          replace hx := hx.app hK38 (hO) (by omega)
          replace hO := hO38
          refine WL_q rfl (ev_assign rfl) ?_
          refine WL_nil ?_
          refine thenE_n ?_
          refine W_seq ?_
          refine W_region ?_
          refine WL_q rfl (ev_move rfl) ?_
          refine WL_q rfl (ev_move rfl) ?_
          refine WL_m rfl (ev_lit1 Try.underlying33 el3 (by decide) (by decide) rfl rfl) ?_
          rintro _ w41 ⟨rfl, hN41⟩
          have hz41 := hN41.size
          replace hE := hE.trans hN41.ext
          replace hRL0 := hRL0.trans hN41.ext
          replace hx := hx.ext hN41.ext
          replace hO := hO.ext hN41.ext
          have hB41 := hN41.blk
          refine WL_m rfl (ev_append Try.underlying33 el3 rfl (by decide) rfl rfl hO (SAt.of_blk (cs := [_]) (ds := []) hB41) rfl (by simp [Value.oneCell']) (by omega) (by unfold maxLen; omega) (by omega)) ?_
          rintro _ w42 ⟨a42, c42, rfl, hO42, hK42, hQ42⟩
          have hz42 := hK42.size
          replace hE := hE.app hK42 (fun q hq => by have := (hO.block q hq).1; omega)
          replace hRL0 := hRL0.app hK42 (fun q hq => by have := (hO.block q hq).1; omega)
          replace hx := hx.app hK42 (hO) (by omega)
          replace hO := hO42
          refine WL_q rfl (ev_assign rfl) ?_
          refine WL_nil ?_
          refine thenE_n ?_
          refine W_seq ?_
          refine W_region ?_
          refine WL_q rfl (ev_move rfl) ?_
          refine WL_q rfl (ev_move rfl) ?_
          refine WL_q rfl (ev_move rfl) ?_
          refine WL_q rfl (ev_slice_lo Try.underlying33 sz3 rfl rfl (by omega) (by omega) (by omega)) ?_
          refine WL_m rfl (ev_append Try.underlying33 el3 rfl (by decide) rfl rfl hO (hx.dropV i) (by simp) (oneVI _) (by omega) (by unfold maxLen; omega) (by omega)) ?_
          rintro _ w47 ⟨a47, c47, rfl, hO47, hK47, hQ47⟩
          have hz47 := hK47.size
          replace hE := hE.app hK47 (fun q hq => by have := (hO.block q hq).1; omega)
          replace hRL0 := hRL0.app hK47 (fun q hq => by have := (hO.block q hq).1; omega)
          replace hx := hx.app hK47 (hO) (by omega)
          replace hO := hO47
          refine WL_q rfl (ev_assign rfl) ?_
          refine WL_nil ?_
          refine thenE_n ?_
          refine W_ret ?_
          refine ret1 rfl rfl ?_
          first | (exact ⟨_, _, xs, rfl, hx.mono (by omega) (by omega), put_same (by omega) hp31, hE⟩) | (obtain ⟨hn9, hI9⟩ := Ints.of_own' (xs := xs.take i ++ [x] ++ xs.drop i) hO (by simp); exact ⟨_, _, _, by rw [hn9], hI9, put_new hi' hJ (fun h => by omega), hE⟩)
      · have hp24 := of_decide_eq_false hg24
        refine WL_no rfl rfl hg24 rfl ?_
        refine WL_no rfl rfl hg24 rfl ?_
        refine WL_no rfl rfl hg24 rfl ?_
        refine WL_no rfl rfl hg24 rfl ?_
        refine WL_no rfl rfl hg24 rfl ?_
        refine WL_no rfl rfl hg24 rfl ?_
        refine WL_q rfl (ev_pick_f rfl hg24 rfl) ?_
        refine WL_nil ?_
        refine thenE_n ?_
        refine W_cond_f rfl ?_
        refine W_skip ?_
        refine thenE_n ?_
        refine W_seq ?_
        refine W_region ?_
        refine WL_m rfl (ev_lit0 Try.underlying33 el3) ?_
        rintro _ w34 ⟨rfl, hN34⟩
        have hz34 := hN34.size
        replace hE := hE.trans hN34.ext
        replace hRL0 := hRL0.trans hN34.ext
        replace hx := hx.ext hN34.ext
        have hB34 := hN34.blk
        have hO := Own.of_new (n := 0) (sz := 1) hN34 rfl (by decide)
        refine WL_q rfl (ev_move rfl) ?_
        refine WL_q rfl (ev_move rfl) ?_
        refine WL_q rfl (ev_slice_hi Try.underlying33 sz3 rfl rfl (by omega) (by omega)) ?_
        refine WL_m rfl (ev_append Try.underlying33 el3 rfl (by decide) rfl rfl hO (hx.take i).vals (by simp; omega) (oneVI _) (by omega) (by unfold maxLen; omega) (by omega)) ?_
        rintro _ w38 ⟨a38, c38, rfl, hO38, hK38, hQ38⟩
        have hz38 := hK38.size
        replace hE := hE.app hK38 (fun q hq => by have := (hO.block q hq).1; omega)
        replace hRL0 := hRL0.app hK38 (fun q hq => by have := (hO.block q hq).1; omega)
        replace hx := hx.app hK38 (hO) (by omega)
        replace hO := hO38
        refine WL_q rfl (ev_assign rfl) ?_
        refine WL_nil ?_
        refine thenE_n ?_
        refine W_seq ?_
        refine W_region ?_
        refine WL_q rfl (ev_move rfl) ?_
        refine WL_q rfl (ev_move rfl) ?_
        refine WL_m rfl (ev_lit1 Try.underlying33 el3 (by decide) (by decide) rfl rfl) ?_
        rintro _ w41 ⟨rfl, hN41⟩
        have hz41 := hN41.size
        replace hE := hE.trans hN41.ext
        replace hRL0 := hRL0.trans hN41.ext
        replace hx := hx.ext hN41.ext
        replace hO := hO.ext hN41.ext
        have hB41 := hN41.blk
        refine WL_m rfl (ev_append Try.underlying33 el3 rfl (by decide) rfl rfl hO (SAt.of_blk (cs := [_]) (ds := []) hB41) rfl (by simp [Value.oneCell']) (by omega) (by unfold maxLen; omega) (by omega)) ?_
        rintro _ w42 ⟨a42, c42, rfl, hO42, hK42, hQ42⟩
        have hz42 := hK42.size
        replace hE := hE.app hK42 (fun q hq => by have := (hO.block q hq).1; omega)
        replace hRL0 := hRL0.app hK42 (fun q hq => by have := (hO.block q hq).1; omega)
        replace hx := hx.app hK42 (hO) (by omega)
        replace hO := hO42
        refine WL_q rfl (ev_assign rfl) ?_
        refine WL_nil ?_
        refine thenE_n ?_
        refine W_seq ?_
        refine W_region ?_
        refine WL_q rfl (ev_move rfl) ?_
        refine WL_q rfl (ev_move rfl) ?_
        refine WL_q rfl (ev_move rfl) ?_
        refine WL_q rfl (ev_slice_lo Try.underlying33 sz3 rfl rfl (by omega) (by omega) (by omega)) ?_
        refine WL_m rfl (ev_append Try.underlying33 el3 rfl (by decide) rfl rfl hO (hx.dropV i) (by simp) (oneVI _) (by omega) (by unfold maxLen; omega) (by omega)) ?_
        rintro _ w47 ⟨a47, c47, rfl, hO47, hK47, hQ47⟩
        have hz47 := hK47.size
        replace hE := hE.app hK47 (fun q hq => by have := (hO.block q hq).1; omega)
        replace hRL0 := hRL0.app hK47 (fun q hq => by have := (hO.block q hq).1; omega)
        replace hx := hx.app hK47 (hO) (by omega)
        replace hO := hO47
        refine WL_q rfl (ev_assign rfl) ?_
        refine WL_nil ?_
        refine thenE_n ?_
        refine W_ret ?_
        refine ret1 rfl rfl ?_
        first | (exact ⟨_, _, xs, rfl, hx.mono (by omega) (by omega), put_same (by omega) hp31, hE⟩) | (obtain ⟨hn9, hI9⟩ := Ints.of_own' (xs := xs.take i ++ [x] ++ xs.drop i) hO (by simp); exact ⟨_, _, _, by rw [hn9], hI9, put_new hi' hJ (fun h => by omega), hE⟩)
  · have hp10 := of_decide_eq_false hg10
    refine WL_no rfl rfl hg10 rfl ?_
    refine WL_no rfl rfl hg10 rfl ?_
    refine WL_no rfl rfl hg10 rfl ?_
    refine WL_no rfl rfl hg10 rfl ?_
    refine WL_no rfl rfl hg10 rfl ?_
    refine WL_no rfl rfl hg10 rfl ?_
    refine WL_q rfl (ev_pick_f rfl hg10 rfl) ?_
    refine WL_nil ?_
    refine thenE_n ?_
    refine W_cond_f rfl ?_
    refine W_exit ?_
    refine thenE_x ?_
    refine thenE_x ?_
    refine blockE_hit ?_
    refine thenE_n ?_
    refine W_seq ?_
    refine W_seq ?_
    refine W_region ?_
    refine WL_q rfl (ev_move rfl) ?_
    refine WL_q rfl (ev_move rfl) ?_
    refine WL_q rfl (ev_len Try.underlying33 rfl) ?_
    refine WL_q rfl (ev_lss rfl rfl) ?_
    refine WL_q rfl (ev_move rfl) ?_
    refine WL_splitv (t := 25) rfl (fun hg24 => ?_) (fun hg24 => ?_)
    · have hp24 := of_decide_eq_true hg24
      refine WL_qg rfl rfl hg24 rfl (ev_move rfl) ?_
      refine WL_qg rfl rfl hg24 rfl (ev_move rfl) ?_
      refine WL_qg rfl rfl hg24 rfl (ev_indexAddr Try.underlying33 sz3 rfl rfl (hx.isSome (by omega)) (by omega) (by omega)) ?_
      refine WL_qg rfl rfl hg24 rfl (ev_load one3 rfl (hx.cell (i := i) (by omega))) ?_
      refine WL_qg rfl rfl hg24 rfl (ev_move rfl) ?_
      refine WL_qg rfl rfl hg24 rfl (ev_eql rfl rfl) ?_
      refine WL_q rfl (ev_pick_t rfl hg24 rfl) ?_
      refine WL_nil ?_
      refine thenE_n ?_
      refine W_cond rfl (fun hg31 => ?_) (fun hg31 => ?_)
      · have hp31 := of_decide_eq_true hg31
        refine W_seq ?_
        refine W_region ?_
        refine WL_q rfl (ev_move rfl) ?_
        refine WL_q rfl (ev_assign rfl) ?_
        refine WL_nil ?_
        refine thenE_n ?_
        refine W_ret ?_
        refine thenE_r ?_
        refine ret1 rfl rfl ?_
        first | (exact ⟨_, _, xs, rfl, hx.mono (by omega) (by omega), put_same (by omega) hp31, hE⟩) | (obtain ⟨hn9, hI9⟩ := Ints.of_own' (xs := xs.take i ++ [x] ++ xs.drop i) hO (by simp); exact ⟨_, _, _, by rw [hn9], hI9, put_new hi' hJ (fun h => by omega), hE⟩)
      · have hp31 := of_decide_eq_false hg31
        refine W_skip ?_
        refine thenE_n ?_
        refine W_seq ?_
        refine W_region ?_
        refine WL_m rfl (ev_lit0 Try.underlying33 el3) ?_
        rintro _ w34 ⟨rfl, hN34⟩
        have hz34 := hN34.size
        replace hE := hE.trans hN34.ext
        replace hRL0 := hRL0.trans hN34.ext
        replace hx := hx.ext hN34.ext
        have hB34 := hN34.blk
        have hO := Own.of_new (n := 0) (sz := 1) hN34 rfl (by decide)
        refine WL_q rfl (ev_move rfl) ?_
        refine WL_q rfl (ev_move rfl) ?_
        refine WL_q rfl (ev_slice_hi Try.underlying33 sz3 rfl rfl (by omega) (by omega)) ?_
        refine WL_m rfl (ev_append Try.underlying33 el3 rfl (by decide) rfl rfl hO (hx.take i).vals (by simp; omega) (oneVI _) (by omega) (by unfold maxLen; omega) (by omega)) ?_
        rintro _ w38 ⟨a38, c38, rfl, hO38, hK38, hQ38⟩
        have hz38 := hK38.size
        replace hE := hE.app hK38 (fun q hq => by have := (hO.block q hq).1; omega)
        replace hRL0 := hRL0.app hK38 (fun q hq => by have := (hO.block q hq).1; omega)
        replace hx := hx.app hK38 (hO) (by omega)
        replace hO := hO38
        refine WL_q rfl (ev_assign rfl) ?_
        refine WL_nil ?_
        refine thenE_n ?_
        refine W_seq ?_
        refine W_region ?_
        refine WL_q rfl (ev_move rfl) ?_
        refine WL_q rfl (ev_move rfl) ?_
        refine WL_m rfl (ev_lit1 Try.underlying33 el3 (by decide) (by decide) rfl rfl) ?_
        rintro _ w41 ⟨rfl, hN41⟩
        have hz41 := hN41.size
        replace hE := hE.trans hN41.ext
        replace hRL0 := hRL0.trans hN41.ext
        replace hx := hx.ext hN41.ext
        replace hO := hO.ext hN41.ext
        have hB41 := hN41.blk
        refine WL_m rfl (ev_append Try.underlying33 el3 rfl (by decide) rfl rfl hO (SAt.of_blk (cs := [_]) (ds := []) hB41) rfl (by simp [Value.oneCell']) (by omega) (by unfold maxLen; omega) (by omega)) ?_
        rintro _ w42 ⟨a42, c42, rfl, hO42, hK42, hQ42⟩
        have hz42 := hK42.size
        replace hE := hE.app hK42 (fun q hq => by have := (hO.block q hq).1; omega)
        replace hRL0 := hRL0.app hK42 (fun q hq => by have := (hO.block q hq).1; omega)
        replace hx := hx.app hK42 (hO) (by omega)
        replace hO := hO42
        refine WL_q rfl (ev_assign rfl) ?_
        refine WL_nil ?_
        refine thenE_n ?_
        refine W_seq ?_
        refine W_region ?_
        refine WL_q rfl (ev_move rfl) ?_
        refine WL_q rfl (ev_move rfl) ?_
        refine WL_q rfl (ev_move rfl) ?_
        refine WL_q rfl (ev_slice_lo Try.underlying33 sz3 rfl rfl (by omega) (by omega) (by omega)) ?_
        refine WL_m rfl (ev_append Try.underlying33 el3 rfl (by decide) rfl rfl hO (hx.dropV i) (by simp) (oneVI _) (by omega) (by unfold maxLen; omega) (by omega)) ?_
        rintro _ w47 ⟨a47, c47, rfl, hO47, hK47, hQ47⟩
        have hz47 := hK47.size
        replace hE := hE.app hK47 (fun q hq => by have := (hO.block q hq).1; omega)
        replace hRL0 := hRL0.app hK47 (fun q hq => by have := (hO.block q hq).1; omega)
        replace hx := hx.app hK47 (hO) (by omega)
        replace hO := hO47
        refine WL_q rfl (ev_assign rfl) ?_
        refine WL_nil ?_
        refine thenE_n ?_
        refine W_ret ?_
        refine ret1 rfl rfl ?_
        first | (exact ⟨_, _, xs, rfl, hx.mono (by omega) (by omega), put_same (by omega) hp31, hE⟩) | (obtain ⟨hn9, hI9⟩ := Ints.of_own' (xs := xs.take i ++ [x] ++ xs.drop i) hO (by simp); exact ⟨_, _, _, by rw [hn9], hI9, put_new hi' hJ (fun h => by omega), hE⟩)
    · have hp24 := of_decide_eq_false hg24
      refine WL_no rfl rfl hg24 rfl ?_
      refine WL_no rfl rfl hg24 rfl ?_
      refine WL_no rfl rfl hg24 rfl ?_
      refine WL_no rfl rfl hg24 rfl ?_
      refine WL_no rfl rfl hg24 rfl ?_
      refine WL_no rfl rfl hg24 rfl ?_
      refine WL_q rfl (ev_pick_f rfl hg24 rfl) ?_
      refine WL_nil ?_
      refine thenE_n ?_
      refine W_cond_f rfl ?_
      refine W_skip ?_
      refine thenE_n ?_
      refine W_seq ?_
      refine W_region ?_
      refine WL_m rfl (ev_lit0 Try.underlying33 el3) ?_
      rintro _ w34 ⟨rfl, hN34⟩
      have hz34 := hN34.size
      replace hE := hE.trans hN34.ext
      replace hRL0 := hRL0.trans hN34.ext
      replace hx := hx.ext hN34.ext
      have hB34 := hN34.blk
      have hO := Own.of_new (n := 0) (sz := 1) hN34 rfl (by decide)
      refine WL_q rfl (ev_move rfl) ?_
      refine WL_q rfl (ev_move rfl) ?_
      refine WL_q rfl (ev_slice_hi Try.underlying33 sz3 rfl rfl (by omega) (by omega)) ?_
      refine WL_m rfl (ev_append Try.underlying33 el3 rfl (by decide) rfl rfl hO (hx.take i).vals (by simp; omega) (oneVI _) (by omega) (by unfold maxLen; omega) (by omega)) ?_
      rintro _ w38 ⟨a38, c38, rfl, hO38, hK38, hQ38⟩
      have hz38 := hK38.size
      replace hE := hE.app hK38 (fun q hq => by have := (hO.block q hq).1; omega)
      replace hRL0 := hRL0.app hK38 (fun q hq => by have := (hO.block q hq).1; omega)
      replace hx := hx.app hK38 (hO) (by omega)
      replace hO := hO38
      refine WL_q rfl (ev_assign rfl) ?_
      refine WL_nil ?_
      refine thenE_n ?_
      refine W_seq ?_
      refine W_region ?_
      refine WL_q rfl (ev_move rfl) ?_
      refine WL_q rfl (ev_move rfl) ?_
      refine WL_m rfl (ev_lit1 Try.underlying33 el3 (by decide) (by decide) rfl rfl) ?_
      rintro _ w41 ⟨rfl, hN41⟩
      have hz41 := hN41.size
      replace hE := hE.trans hN41.ext
      replace hRL0 := hRL0.trans hN41.ext
      replace hx := hx.ext hN41.ext
      replace hO := hO.ext hN41.ext
      have hB41 := hN41.blk
      refine WL_m rfl (ev_append Try.underlying33 el3 rfl (by decide) rfl rfl hO (SAt.of_blk (cs := [_]) (ds := []) hB41) rfl (by simp [Value.oneCell']) (by omega) (by unfold maxLen; omega) (by omega)) ?_
      rintro _ w42 ⟨a42, c42, rfl, hO42, hK42, hQ42⟩
      have hz42 := hK42.size
      replace hE := hE.app hK42 (fun q hq => by have := (hO.block q hq).1; omega)
      replace hRL0 := hRL0.app hK42 (fun q hq => by have := (hO.block q hq).1; omega)
      replace hx := hx.app hK42 (hO) (by omega)
      replace hO := hO42
      refine WL_q rfl (ev_assign rfl) ?_
      refine WL_nil ?_
      refine thenE_n ?_
      refine W_seq ?_
      refine W_region ?_
      refine WL_q rfl (ev_move rfl) ?_
      refine WL_q rfl (ev_move rfl) ?_
      refine WL_q rfl (ev_move rfl) ?_
      refine WL_q rfl (ev_slice_lo Try.underlying33 sz3 rfl rfl (by omega) (by omega) (by omega)) ?_
      refine WL_m rfl (ev_append Try.underlying33 el3 rfl (by decide) rfl rfl hO (hx.dropV i) (by simp) (oneVI _) (by omega) (by unfold maxLen; omega) (by omega)) ?_
      rintro _ w47 ⟨a47, c47, rfl, hO47, hK47, hQ47⟩
      have hz47 := hK47.size
      replace hE := hE.app hK47 (fun q hq => by have := (hO.block q hq).1; omega)
      replace hRL0 := hRL0.app hK47 (fun q hq => by have := (hO.block q hq).1; omega)
      replace hx := hx.app hK47 (hO) (by omega)
      replace hO := hO47
      refine WL_q rfl (ev_assign rfl) ?_
      refine WL_nil ?_
      refine thenE_n ?_
      refine W_ret ?_
      refine ret1 rfl rfl ?_
      first | (exact ⟨_, _, xs, rfl, hx.mono (by omega) (by omega), put_same (by omega) hp31, hE⟩) | (obtain ⟨hn9, hI9⟩ := Ints.of_own' (xs := xs.take i ++ [x] ++ xs.drop i) hO (by simp); exact ⟨_, _, _, by rw [hn9], hI9, put_new hi' hJ (fun h => by omega), hE⟩)

def Quiet (m : Mach) (s : Int) : Prop := ∃ _h : s.toNat < m.output.length, m.output[s.toNat] < 0
/-- A state that can come up. -/
inductive Reach (m : Mach) : Int → Prop
  | start {l : List Int} {s : Int} (h : l ∈ m.start) (hs : s ∈ l) : Reach m s
  | step {c : Cl} (hc : c ∈ m.clauses) (h : Reach m c.1) (ho : Quiet m c.1) : Reach m c.2.2
def ClosedC (m : Mach) (S : List Int) (c : Cl) : Prop := c.1 ∈ S → Quiet m c.1 → c.2.2 ∈ S
structure Acc (m : Mach) (S : List Int) : Prop where
  sorted : S.Pairwise (· < ·)
  reach : ∀ s ∈ S, Reach m s ∧ 0 ≤ s ∧ s ≤ m.states - 1
theorem sorted_len {S : List Int} : ∀ {lo n : Int}, S.Pairwise (· < ·) → (∀ s ∈ S, lo ≤ s ∧ s ≤ n) → lo ≤ n + 1 → (S.length : Int) ≤ n + 1 - lo := by
  induction S with
  | nil => intro lo n _ _ h; simp; omega
  | cons x r ih =>
    intro lo n hs h hl
    rw [List.pairwise_cons] at hs
    have hx := h x (List.mem_cons_self ..)
    have := ih (lo := x + 1) (n := n) hs.2 (fun s hs' => ⟨by have := hs.1 s hs'; omega, (h s (List.mem_cons_of_mem _ hs')).2⟩) (by omega)
    simp only [List.length_cons]; omega
theorem Acc.len {m : Mach} {S : List Int} (h : Acc m S) (hm : MOk m) : S.length ≤ m.states.toNat ∧ S.length ≤ 12 := by
  have h1 := sorted_len h.sorted (fun s hs => (h.reach s hs).2) (by have := hm.states; omega)
  have := hm.states
  omega
theorem Acc.nil (m : Mach) : Acc m [] := ⟨List.Pairwise.nil, fun s hs => by simp at hs⟩
theorem Acc.put {m : Mach} {S ys : List Int} {x : Int} (h : Acc m S) (hx : Reach m x ∧ 0 ≤ x ∧ x ≤ m.states - 1) (hp : PutR S x ys) : Acc m ys :=
  ⟨(hp h.sorted).1, fun s hs => by rcases ((hp h.sorted).2.1 s).1 hs with rfl | hs; exact hx; exact h.reach s hs⟩
def RS (m : Mach) (S : List Int) : Prop := S.Pairwise (· < ·) ∧ ∀ s, s ∈ S ↔ Reach m s
theorem sorted_ext : ∀ {S U : List Int}, S.Pairwise (· < ·) → U.Pairwise (· < ·) → (∀ s, s ∈ S ↔ s ∈ U) → S = U := by
  intro S
  induction S with
  | nil => intro U _ _ h; cases U with
    | nil => rfl
    | cons y t => exact absurd ((h y).2 (List.mem_cons_self ..)) (by simp)
  | cons x r ih =>
    intro U hS hU h
    cases U with
    | nil => exact absurd ((h x).1 (List.mem_cons_self ..)) (by simp)
    | cons y t =>
      rw [List.pairwise_cons] at hS hU
      have hxy : x = y := by
        rcases List.mem_cons.1 ((h x).1 (List.mem_cons_self ..)) with e | e
        · exact e
        · rcases List.mem_cons.1 ((h y).2 (List.mem_cons_self ..)) with e2 | e2
          · exact e2.symm
          · have := hU.1 x e; have := hS.1 y e2; omega
      subst hxy
      congr 1
      refine ih hS.2 hU.2 fun s => ?_
      have hs := h s
      simp only [List.mem_cons] at hs
      constructor
      · intro h1
        rcases hs.1 (.inr h1) with e | e
        · have := hS.1 s h1; omega
        · exact e
      · intro h1
        rcases hs.2 (.inr h1) with e | e
        · have := hU.1 s h1; omega
        · exact e
theorem RS.det {m : Mach} {S U : List Int} (h : RS m S) (k : RS m U) : S = U := sorted_ext h.1 k.1 fun s => (h.2 s).trans (k.2 s).symm
def RSR (m : Mach) (ys : List Int) (q : Bool) : Prop := (MOk m ∧ q = true ∧ RS m ys) ∨ (¬ MOk m ∧ q = false ∧ ys = [])
theorem RSR.det1 {m : Mach} {ys zs : List Int} {q r : Bool} (h : RSR m ys q) (k : RSR m zs r) : ys = zs := by
  rcases h with ⟨h1, h2, h3⟩ | ⟨h1, h2, h3⟩ <;> rcases k with ⟨k1, k2, k3⟩ | ⟨k1, k2, k3⟩
  · exact h3.det k3
  · exact absurd h1 k1
  · exact absurd k1 h1
  · rw [h3, k3]
theorem RSR.det2 {m : Mach} {ys zs : List Int} {q r : Bool} (h : RSR m ys q) (k : RSR m zs r) : q = r := by
  rcases h with ⟨h1, h2, h3⟩ | ⟨h1, h2, h3⟩ <;> rcases k with ⟨k1, k2, k3⟩ | ⟨k1, k2, k3⟩
  · rw [h2, k2]
  · exact absurd h1 k1
  · exact absurd k1 h1
  · rw [h2, k2]
theorem reach_all {m : Mach} {P : Int → Prop} (h1 : ∀ l ∈ m.start, ∀ s ∈ l, P s) (h2 : ∀ c ∈ m.clauses, P c.1 → Quiet m c.1 → P c.2.2) : ∀ s, Reach m s → P s := by
  intro s h
  induction h with
  | start h hs => exact h1 _ h _ hs
  | step hc _ ho ih => exact h2 _ hc ih ho
theorem Acc.done {m : Mach} {S : List Int} (h : Acc m S) (h1 : ∀ l ∈ m.start, ∀ s ∈ l, s ∈ S) (h2 : ∀ c ∈ m.clauses, ClosedC m S c) : RS m S :=
  ⟨h.sorted, fun s => ⟨fun hs => (h.reach s hs).1, reach_all (P := fun s => s ∈ S) h1 h2 s⟩⟩
theorem mu_dec {st a b : Nat} {f f6 : Bool} (hf : f = true) (h1 : f6 = true → a < b) (h2 : a ≤ b) (h3 : b ≤ st) : 2 * (st - b) + (if f6 = true then 1 else 0) < 2 * (st - a) + (if f = true then 1 else 0) := by
  subst hf
  cases f6
  · simp; omega
  · have := h1 rfl; simp; omega
theorem Ints.none0 (w : World) (hi : Nat) : Ints 0 hi w none 0 [] := ⟨by simp, by simp, SAt.nil⟩
theorem MOk.srow {m : Mach} (h : MOk m) {i k : Nat} (hi : i < m.start.length) (hk : k < m.start[i].length) : Reach m m.start[i][k] ∧ 0 ≤ m.start[i][k] ∧ m.start[i][k] ≤ m.states - 1 :=
  ⟨.start (List.getElem_mem hi) (List.getElem_mem hk), allR_at (h.start _ (List.getElem_mem hi)).2 hk⟩
theorem idx_all {S : List Int} {l : List Int} {i : Nat} (hJ : ∀ j (_h : j < i) (h2 : j < l.length), l[j] ∈ S) (hi : l.length ≤ i) : ∀ s ∈ l, s ∈ S := all_of_idx (p := fun s => s ∈ S) hJ hi

set_option maxHeartbeats 2000000 in
set_option maxRecDepth 100000 in
theorem sReach_spec {lo hi : Nat} (h : MA) (m : Mach) (w : World) (hM : IsMach lo hi w h m) (hhi : hi ≤ w.heap.size) (hn : totM m ≤ 1048576) :
    Fn Try.prog 32 #[machV h m] w (fun v w' => ∃ a' c' ys q, v = .tuple #[.slice a' ys.length c', VB q] ∧ RSR m ys q ∧ Ints 0 w'.heap.size w' a' c' ys ∧ Ext w w') := by
  have hq1 := totL_len m.start
  have hq2 := totL_len m.send
  have hq3 := totC_len m.clauses
  have hn0 := hn
  unfold totM at hn
  have hE := Ext.refl w
  refine Fn_of Try.func32 rfl rfl (by kernel_rfl) rfl ?_
  refine W_seq ?_
  refine W_region ?_
  refine WL_m rfl (ev_box rfl) ?_
  rintro _ w1 ⟨rfl, hN1⟩
  have hz1 := hN1.size
  replace hE := hE.trans hN1.ext
  replace hM := hM.ext hN1.ext
  have hB1 : Blk w1 _ _ [_, _, _, _, _, _, _] := hN1.blk
  refine WL_q rfl (ev_assign rfl) ?_
  refine WL_q rfl (ev_assign rfl) ?_
  refine WL_nil ?_
  refine thenE_n ?_
  refine W_seq ?_
  refine W_seq ?_
  refine W_region ?_
  refine WL_q rfl (ev_loads st40 sz40 rfl (cellsB hB1) rfl) ?_
  refine WL_m rfl (ev_call rfl (maGood_spec h m _ hM (by omega) (by omega))) ?_
  rintro _ w13 ⟨b13, rfl, hb13, hE13⟩
  have hz13 := hE13.size
  replace hE := hE.trans hE13
  replace hM := hM.ext hE13
  replace hB1 := hB1.ext hE13
  refine WL_q rfl (ev_not rfl) ?_
  refine WL_nil ?_
  refine thenE_n ?_
  refine W_cond rfl (fun hg14 => ?_) (fun hg14 => ?_)
  · have hg13 := not_true hg14
    have hp13 := ttN hb13 hg13
    refine W_seq ?_
    refine W_region ?_
    refine WL_q rfl (ev_assign rfl) ?_
    refine WL_q rfl (ev_assign rfl) ?_
    refine WL_nil ?_
    refine thenE_n ?_
    refine W_ret ?_
    refine thenE_r ?_
    refine ret2 rfl rfl rfl ?_
    first | (exact ⟨none, 0, [], false, rfl, .inr ⟨hp13, rfl, rfl⟩, Ints.none0 _ _, hE⟩) | (exact ⟨_, _, S4, true, rfl, .inl ⟨hp13, rfl, hA4.done hst4 (hcl4 hgc33)⟩, hS4, hE⟩)
  · have hg13 := not_false hg14
    have hp13 := hb13.1 hg13
    refine W_skip ?_
    refine thenE_n ?_
    refine W_seq ?_
    refine W_region ?_
    refine WL_q rfl (ev_assign rfl) ?_
    refine WL_nil ?_
    refine thenE_n ?_
    refine W_seq ?_
    refine W_seq ?_
    refine W_region ?_
    refine WL_q rfl (ev_fieldAddr fo40_3 rfl) ?_
    refine WL_q rfl (ev_load one31 rfl (hB1.cell rfl)) ?_
    refine WL_q rfl (ev_len Try.underlying31 rfl) ?_
    refine WL_q rfl (ev_move rfl) ?_
    refine WL_nil ?_
    refine thenE_n ?_
    refine W_block ?_
    refine W_loopC (G := Nat × Option Addr × Nat × List Int) [(1, _), (16, _), (17, _)] ((Subs.c rfl (Subs.c rfl (Subs.c rfl Subs.n)))) (fun ⟨i, a, c, S⟩ => [(4, .slice a S.length c), (18, VI (i : Int))]) (fun ⟨i, a, c, S⟩ w' => Ext w13 w' ∧ i ≤ m.start.length ∧ Ints 0 w'.heap.size w' a c S ∧ Acc m S ∧ ∀ j (_h : j < i) (h2 : j < m.start.length), ∀ s ∈ m.start[j], s ∈ S) (fun g => m.start.length - g.1) (0, none, 0, []) ((Subs.c rfl (Subs.c (lkI rfl (by omega)) Subs.n))) (⟨Ext.refl _, ⟨by simp, Ints.none0 _ _, Acc.nil m, fun j h => by simp at h⟩⟩) ?_
    rintro ⟨i, a, c, S⟩ wL0 ⟨hRL0, hi', hS, hA, hJ⟩
    have hzL0 := hRL0.size
    replace hE := hE.trans hRL0
    replace hM := hM.ext hRL0
    replace hB1 := hB1.ext hRL0
    refine W_seq ?_
    refine W_region ?_
    refine WL_q rfl (ev_lss rfl rfl) ?_
    refine WL_nil ?_
    refine thenE_n ?_
    refine W_seq ?_
    refine W_cond rfl (fun hg19 => ?_) (fun hg19 => ?_)
    · have hp19 := of_decide_eq_true hg19
      refine W_skip ?_
      refine thenE_n ?_
      refine W_seq ?_
      refine W_block ?_
      refine W_seq ?_
      refine W_region ?_
      have hlt : i < m.start.length := by omega
      have ht1 := totL_le hlt
      obtain ⟨a2, c2, hc2, hr2⟩ := hM.start.row hlt
      refine WL_q rfl (ev_indexAddr Try.underlying31 sz33 rfl rfl (hM.start.isSome (by omega)) (by omega) (by omega)) ?_
      refine WL_q rfl (ev_load one33 rfl (hc2)) ?_
      refine WL_q rfl (ev_assign rfl) ?_
      refine WL_nil ?_
      refine thenE_n ?_
      refine W_seq ?_
      refine W_region ?_
      refine WL_q rfl (ev_move rfl) ?_
      refine WL_q rfl (ev_len Try.underlying33 rfl) ?_
      refine WL_q rfl (ev_move rfl) ?_
      refine WL_nil ?_
      refine thenE_n ?_
      refine W_block ?_
      refine W_loopC (G := Nat × Option Addr × Nat × List Int) [(1, _), (16, _), (17, _), (18, _), (22, _), (23, _)] ((Subs.c rfl (Subs.c rfl (Subs.c rfl (Subs.c rfl (Subs.c rfl (Subs.c rfl Subs.n))))))) (fun ⟨k, b, d, U⟩ => [(4, .slice b U.length d), (24, VI (k : Int))]) (fun ⟨k, b, d, U⟩ w' => Ext wL0 w' ∧ k ≤ m.start[i].length ∧ Ints 0 w'.heap.size w' b d U ∧ Acc m U ∧ (∀ s ∈ S, s ∈ U) ∧ ∀ j (_h : j < k) (h2 : j < m.start[i].length), m.start[i][j] ∈ U) (fun g => m.start[i].length - g.1) (0, a, c, S) ((Subs.c rfl (Subs.c (lkI rfl (by omega)) Subs.n))) (⟨Ext.refl _, ⟨by simp, hS, hA, fun s hs => hs, fun j h => by simp at h⟩⟩) ?_
      rintro ⟨k, b, d, U⟩ wL2 ⟨hRL2, hk', hU, hA2, hsub, hJ2⟩
      have hzL2 := hRL2.size
      replace hE := hE.trans hRL2
      replace hRL0 := hRL0.trans hRL2
      replace hM := hM.ext hRL2
      replace hB1 := hB1.ext hRL2
      replace hS := hS.ext hRL2
      replace hr2 := hr2.ext hRL2
      refine W_seq ?_
      refine W_region ?_
      refine WL_q rfl (ev_lss rfl rfl) ?_
      refine WL_nil ?_
      refine thenE_n ?_
      refine W_seq ?_
      refine W_cond rfl (fun hg25 => ?_) (fun hg25 => ?_)
      · have hp25 := of_decide_eq_true hg25
        refine W_skip ?_
        refine thenE_n ?_
        refine W_seq ?_
        refine W_block ?_
        refine W_seq ?_
        refine W_region ?_
        have hlk : k < m.start[i].length := by omega
        have hul := hA2.len hp13
        refine WL_q rfl (ev_indexAddr Try.underlying33 sz3 rfl rfl (hr2.isSome (by omega)) (by omega) (by omega)) ?_
        refine WL_q rfl (ev_load one3 rfl (hr2.cell (i := k) (by omega))) ?_
        refine WL_q rfl (ev_assign rfl) ?_
        refine WL_nil ?_
        refine thenE_n ?_
        refine W_region ?_
        refine WL_q rfl (ev_move rfl) ?_
        refine WL_q rfl (ev_move rfl) ?_
        refine WL_m rfl (ev_call rfl (l1Put_spec _ _ U _ _ hU (by omega) (by omega))) ?_
        rintro _ w30 ⟨a30, c30, y30, rfl, hx30, hp30, hE30⟩
        have hz30 := hE30.size
        replace hE := hE.trans hE30
        replace hRL0 := hRL0.trans hE30
        replace hRL2 := hRL2.trans hE30
        replace hM := hM.ext hE30
        replace hB1 := hB1.ext hE30
        replace hS := hS.ext hE30
        replace hr2 := hr2.ext hE30
        replace hU := hU.ext hE30
        have hput := hp30 hA2.sorted
        refine WL_q rfl (ev_assign rfl) ?_
        refine WL_nil ?_
        refine blockE_n ?_
        refine thenE_n ?_
        refine W_region ?_
        refine WL_q rfl (ev_add rfl rfl (by omega)) ?_
        refine WL_q rfl (ev_move rfl) ?_
        refine WL_nil ?_
        refine thenE_n ?_
        exact ⟨(k + 1, a30, c30, y30), (Subs.c rfl (Subs.c rfl (Subs.c rfl (Subs.c rfl (Subs.c rfl (Subs.c rfl Subs.n)))))), (Subs.c rfl (Subs.c (lkI rfl (by omega)) Subs.n)), ⟨hRL2, ⟨by omega, hx30, hA2.put (hp13.srow hlt hlk) hp30, fun s hs => (hput.2.1 s).2 (.inr (hsub s hs)), dsucc (P := fun j h2 => m.start[i][j] ∈ y30) (fun j h1 h2 => (hput.2.1 _).2 (.inr (hJ2 j h1 h2))) hlk ((hput.2.1 _).2 (.inl rfl))⟩⟩, by first | omega | (dsimp only; omega)⟩
      · have hp25 := of_decide_eq_false hg25
        refine W_exit ?_
        refine thenE_x ?_
        refine thenE_x ?_
        refine blockE_hit ?_
        refine blockE_n ?_
        refine thenE_n ?_
        refine W_region ?_
        refine WL_q rfl (ev_add rfl rfl (by omega)) ?_
        refine WL_q rfl (ev_move rfl) ?_
        refine WL_nil ?_
        refine thenE_n ?_
        exact ⟨(i + 1, b, d, U), (Subs.c rfl (Subs.c rfl (Subs.c rfl Subs.n))), (Subs.c rfl (Subs.c (lkI rfl (by omega)) Subs.n)), ⟨hRL0, ⟨by omega, hU, hA2, dsucc (P := fun j h2 => ∀ s ∈ m.start[j], s ∈ U) (fun j h1 h2 s hs => hsub s (hJ j h1 h2 s hs)) hlt (idx_all hJ2 (by omega))⟩⟩, by first | omega | (dsimp only; omega)⟩
    · have hp19 := of_decide_eq_false hg19
      refine W_exit ?_
      refine thenE_x ?_
      refine thenE_x ?_
      refine blockE_hit ?_
      refine thenE_n ?_
      refine W_seq ?_
      refine W_seq ?_
      refine W_region ?_
      refine WL_q rfl (ev_assign rfl) ?_
      refine WL_nil ?_
      refine thenE_n ?_
      refine W_block ?_
      refine W_loopC (G := Bool × Option Addr × Nat × List Int) [(1, _)] ((Subs.c rfl Subs.n)) (fun ⟨f, a4, c4, S4⟩ => [(4, .slice a4 S4.length c4), (9, VB f)]) (fun ⟨f, a4, c4, S4⟩ w' => Ext wL0 w' ∧ Ints 0 w'.heap.size w' a4 c4 S4 ∧ Acc m S4 ∧ (∀ l ∈ m.start, ∀ s ∈ l, s ∈ S4) ∧ (f = false → ∀ c ∈ m.clauses, ClosedC m S4 c)) (fun g => 2 * (m.states.toNat - g.2.2.2.length) + (if g.1 = true then 1 else 0)) (true, a, c, S) ((Subs.c rfl (Subs.c rfl Subs.n))) (⟨Ext.refl _, ⟨hS, hA, fun l hl => all_of_idx (p := fun l => ∀ s ∈ l, s ∈ S) hJ (by omega) l hl, fun h => by cases h⟩⟩) ?_
      rintro ⟨f, a4, c4, S4⟩ wL4 ⟨hRL4, hS4, hA4, hst4, hcl4⟩
      have hzL4 := hRL4.size
      replace hE := hE.trans hRL4
      replace hRL0 := hRL0.trans hRL4
      replace hM := hM.ext hRL4
      replace hB1 := hB1.ext hRL4
      replace hS := hS.ext hRL4
      refine W_seq ?_
      refine W_seq ?_
      refine W_region ?_
      refine WL_q rfl (ev_move rfl) ?_
      refine WL_nil ?_
      refine thenE_n ?_
      refine W_cond rfl (fun hgc33 => ?_) (fun hgc33 => ?_)
      · refine W_skip ?_
        refine thenE_n ?_
        refine W_block ?_
        refine W_seq ?_
        refine W_region ?_
        refine WL_q rfl (ev_assign rfl) ?_
        refine WL_nil ?_
        refine thenE_n ?_
        refine W_seq ?_
        refine W_region ?_
        refine WL_q rfl (ev_fieldAddr fo40_5 rfl) ?_
        refine WL_q rfl (ev_load one38 rfl (hB1.cell rfl)) ?_
        refine WL_q rfl (ev_len Try.underlying38 rfl) ?_
        refine WL_q rfl (ev_move rfl) ?_
        refine WL_nil ?_
        refine thenE_n ?_
        refine W_block ?_
        refine W_loopC (G := Nat × Bool × Option Addr × Nat × List Int) [(1, _), (35, _), (36, _)] ((Subs.c rfl (Subs.c rfl (Subs.c rfl Subs.n)))) (fun ⟨q, f6, a6, c6, S6⟩ => [(4, .slice a6 S6.length c6), (9, VB f6), (37, VI (q : Int))]) (fun ⟨q, f6, a6, c6, S6⟩ w' => Ext wL4 w' ∧ q ≤ m.clauses.length ∧ Ints 0 w'.heap.size w' a6 c6 S6 ∧ Acc m S6 ∧ (∀ s ∈ S4, s ∈ S6) ∧ S4.length ≤ S6.length ∧ (f6 = true → S4.length < S6.length) ∧ (f6 = false → S6 = S4 ∧ ∀ j (_h : j < q) (h2 : j < m.clauses.length), ClosedC m S4 m.clauses[j])) (fun g => m.clauses.length - g.1) (0, false, a4, c4, S4) ((Subs.c rfl (Subs.c rfl (Subs.c (lkI rfl (by omega)) Subs.n)))) (⟨Ext.refl _, ⟨by simp, hS4, hA4, fun s hs => hs, Nat.le_refl _, (fun h => by cases h), fun _ => ⟨rfl, fun j h => by simp at h⟩⟩⟩) ?_
        rintro ⟨q, f6, a6, c6, S6⟩ wL6 ⟨hRL6, hq', hS6, hA6, hsub, hle, hgt, hcl⟩
        have hzL6 := hRL6.size
        replace hE := hE.trans hRL6
        replace hRL0 := hRL0.trans hRL6
        replace hRL4 := hRL4.trans hRL6
        replace hM := hM.ext hRL6
        replace hB1 := hB1.ext hRL6
        replace hS := hS.ext hRL6
        replace hS4 := hS4.ext hRL6
        refine W_seq ?_
        refine W_region ?_
        refine WL_q rfl (ev_lss rfl rfl) ?_
        refine WL_nil ?_
        refine thenE_n ?_
        refine W_seq ?_
        refine W_cond rfl (fun hg38 => ?_) (fun hg38 => ?_)
        · have hp38 := of_decide_eq_true hg38
          refine W_skip ?_
          refine thenE_n ?_
          refine W_seq ?_
          refine W_block ?_
          refine W_seq ?_
          refine W_region ?_
          have hlq : q < m.clauses.length := by omega
          have hkc := hp13.clauses _ (List.getElem_mem hlq)
          have hol := hp13.outLen
          have hcv : m.clauses[q].1.toNat < m.output.length := by omega
          have hul := hA6.len hp13
          obtain ⟨a5, c5, hc5, hr5⟩ := hM.clauses.cl hlq
          refine WL_q rfl (ev_indexAddr Try.underlying38 sz84 rfl rfl (hM.clauses.isSome (by omega)) (by omega) (by omega)) ?_
          refine WL_q rfl (ev_loads st84 sz84 rfl (hc5) rfl) ?_
          refine WL_m rfl (ev_alloc zr84) ?_
          rintro _ w11 ⟨rfl, hN11⟩
          have hz11 := hN11.size
          replace hE := hE.trans hN11.ext
          replace hRL0 := hRL0.trans hN11.ext
          replace hRL4 := hRL4.trans hN11.ext
          replace hRL6 := hRL6.trans hN11.ext
          replace hM := hM.ext hN11.ext
          replace hB1 := hB1.ext hN11.ext
          replace hS := hS.ext hN11.ext
          replace hS4 := hS4.ext hN11.ext
          replace hS6 := hS6.ext hN11.ext
          have hB11 : Blk w11 _ _ [_, _, _] := hN11.blk
          refine WL_s (ev_stores sz84 rfl rfl rfl (by simp [Value.oneCell']) hB11 (by simp)) ?_
          rintro _ w18_3 hS18_3
          have hz18_3 := hS18_3.size
          replace hE := hE.sto hS18_3 (by omega)
          replace hRL0 := hRL0.sto hS18_3 (by omega)
          replace hRL4 := hRL4.sto hS18_3 (by omega)
          replace hRL6 := hRL6.sto hS18_3 (by omega)
          replace hM := hM.sto hS18_3 (by omega)
          replace hB1 := hB1.sto hS18_3 (by omega)
          replace hS := hS.sto hS18_3 (by omega)
          replace hS4 := hS4.sto hS18_3 (by omega)
          replace hS6 := hS6.sto hS18_3 (by omega)
          replace hB11 : Blk w18_3 _ _ [_, _, _] := hS18_3.blk
          refine WL_nil ?_
          refine thenE_n ?_
          refine W_seq ?_
          refine W_region ?_
          refine WL_q rfl (ev_move rfl) ?_
          refine WL_q rfl (ev_fieldAddr fo84_0 rfl) ?_
          refine WL_q rfl (ev_load one3 rfl (hB11.cell rfl)) ?_
          refine WL_m rfl (ev_call rfl (l1Has_spec _ _ S6 _ _ rfl hS6 (by omega))) ?_
          rintro _ w44 ⟨b44, rfl, hb44, hE44⟩
          have hz44 := hE44.size
          replace hE := hE.trans hE44
          replace hRL0 := hRL0.trans hE44
          replace hRL4 := hRL4.trans hE44
          replace hRL6 := hRL6.trans hE44
          replace hM := hM.ext hE44
          replace hB1 := hB1.ext hE44
          replace hS := hS.ext hE44
          replace hS4 := hS4.ext hE44
          replace hS6 := hS6.ext hE44
          replace hB11 := hB11.ext hE44
          refine WL_q rfl (ev_move rfl) ?_
          refine WL_splitv (t := 45) rfl (fun hg44 => ?_) (fun hg44 => ?_)
          · have hp44 := hb44.1 hg44
            refine WL_qg rfl rfl hg44 rfl (ev_fieldAddr fo40_6 rfl) ?_
            refine WL_qg rfl rfl hg44 rfl (ev_load one33 rfl (hB1.cell rfl)) ?_
            refine WL_qg rfl rfl hg44 rfl (ev_fieldAddr fo84_0 rfl) ?_
            refine WL_qg rfl rfl hg44 rfl (ev_load one3 rfl (hB11.cell rfl)) ?_
            refine WL_qg rfl rfl hg44 rfl (ev_indexAddr Try.underlying33 sz3 rfl rfl (hM.output.isSome (by omega)) hkc.1.1 (by omega)) ?_
            refine WL_qg rfl rfl hg44 rfl (ev_load one3 rfl (hM.output.cell (i := m.clauses[q].1.toNat) (by omega))) ?_
            refine WL_qg rfl rfl hg44 rfl (ev_lss rfl rfl) ?_
            refine WL_q rfl (ev_pick_t rfl hg44 rfl) ?_
            refine WL_q rfl (ev_move rfl) ?_
            refine WL_splitv (t := 54) rfl (fun hg52 => ?_) (fun hg52 => ?_)
            · have hp52 := of_decide_eq_true hg52
              refine WL_qg rfl rfl hg52 rfl (ev_move rfl) ?_
              refine WL_qg rfl rfl hg52 rfl (ev_fieldAddr fo84_2 rfl) ?_
              refine WL_qg rfl rfl hg52 rfl (ev_load one3 rfl (hB11.cell rfl)) ?_
              refine WL_mg rfl rfl hg52 rfl (ev_call rfl (l1Has_spec _ _ S6 _ _ rfl hS6 (by omega))) ?_
              rintro _ w58 ⟨b58, rfl, hb58, hE58⟩
              have hz58 := hE58.size
              replace hE := hE.trans hE58
              replace hRL0 := hRL0.trans hE58
              replace hRL4 := hRL4.trans hE58
              replace hRL6 := hRL6.trans hE58
              replace hM := hM.ext hE58
              replace hB1 := hB1.ext hE58
              replace hS := hS.ext hE58
              replace hS4 := hS4.ext hE58
              replace hS6 := hS6.ext hE58
              replace hB11 := hB11.ext hE58
              refine WL_qg rfl rfl hg52 rfl (ev_not rfl) ?_
              refine WL_q rfl (ev_pick_t rfl hg52 rfl) ?_
              refine WL_nil ?_
              refine thenE_n ?_
              refine W_cond rfl (fun hg59 => ?_) (fun hg59 => ?_)
              · have hg58 := not_true hg59
                have hp58 := ttN hb58 hg58
                refine W_seq ?_
                refine W_region ?_
                refine WL_q rfl (ev_move rfl) ?_
                refine WL_q rfl (ev_fieldAddr fo84_2 rfl) ?_
                refine WL_q rfl (ev_load one3 rfl (hB11.cell rfl)) ?_
                refine WL_m rfl (ev_call rfl (l1Put_spec _ _ S6 _ _ hS6 (by omega) (by omega))) ?_
                rintro _ w64 ⟨a64, c64, y64, rfl, hx64, hp64, hE64⟩
                have hz64 := hE64.size
                replace hE := hE.trans hE64
                replace hRL0 := hRL0.trans hE64
                replace hRL4 := hRL4.trans hE64
                replace hRL6 := hRL6.trans hE64
                replace hM := hM.ext hE64
                replace hB1 := hB1.ext hE64
                replace hS := hS.ext hE64
                replace hS4 := hS4.ext hE64
                replace hS6 := hS6.ext hE64
                replace hB11 := hB11.ext hE64
                have hput := hp64 hA6.sorted
                refine WL_q rfl (ev_assign rfl) ?_
                refine WL_nil ?_
                refine thenE_n ?_
                refine W_region ?_
                refine WL_q rfl (ev_assign rfl) ?_
                refine WL_nil ?_
                refine blockE_n ?_
                refine thenE_n ?_
                refine W_region ?_
                refine WL_q rfl (ev_add rfl rfl (by omega)) ?_
                refine WL_q rfl (ev_move rfl) ?_
                refine WL_nil ?_
                refine thenE_n ?_
                exact ⟨(q + 1, true, a64, c64, y64), (Subs.c rfl (Subs.c rfl (Subs.c rfl Subs.n))), (Subs.c rfl (Subs.c rfl (Subs.c (lkI rfl (by omega)) Subs.n))), ⟨hRL6, ⟨by omega, hx64, hA6.put ⟨.step (List.getElem_mem hlq) (hA6.reach _ hp44).1 ⟨hcv, hp52⟩, hkc.2.1⟩ hp64, fun s hs => (hput.2.1 s).2 (.inr (hsub s hs)), by have := hput.2.2.1; omega, fun _ => by have := hput.2.2.2 hp58; omega, fun h => by cases h⟩⟩, by first | omega | (dsimp only; omega)⟩
              · have hg58 := not_false hg59
                have hp58 := hb58.1 hg58
                refine W_skip ?_
                refine blockE_n ?_
                refine thenE_n ?_
                refine W_region ?_
                refine WL_q rfl (ev_add rfl rfl (by omega)) ?_
                refine WL_q rfl (ev_move rfl) ?_
                refine WL_nil ?_
                refine thenE_n ?_
                exact ⟨(q + 1, f6, a6, c6, S6), (Subs.c rfl (Subs.c rfl (Subs.c rfl Subs.n))), (Subs.c rfl (Subs.c rfl (Subs.c (lkI rfl (by omega)) Subs.n))), ⟨hRL6, ⟨by omega, hS6.mono (by omega) (by omega), hA6, hsub, hle, hgt, fun h => ⟨(hcl h).1, dsucc (P := fun j h2 => ClosedC m S4 m.clauses[j]) (hcl h).2 hlq (fun _ _ => (hcl h).1 ▸ hp58)⟩⟩⟩, by first | omega | (dsimp only; omega)⟩
            · have hp52 := of_decide_eq_false hg52
              refine WL_no rfl rfl hg52 rfl ?_
              refine WL_no rfl rfl hg52 rfl ?_
              refine WL_no rfl rfl hg52 rfl ?_
              refine WL_no rfl rfl hg52 rfl ?_
              refine WL_no rfl rfl hg52 rfl ?_
              refine WL_q rfl (ev_pick_f rfl hg52 rfl) ?_
              refine WL_nil ?_
              refine thenE_n ?_
              refine W_cond_f rfl ?_
              refine W_skip ?_
              refine blockE_n ?_
              refine thenE_n ?_
              refine W_region ?_
              refine WL_q rfl (ev_add rfl rfl (by omega)) ?_
              refine WL_q rfl (ev_move rfl) ?_
              refine WL_nil ?_
              refine thenE_n ?_
              exact ⟨(q + 1, f6, a6, c6, S6), (Subs.c rfl (Subs.c rfl (Subs.c rfl Subs.n))), (Subs.c rfl (Subs.c rfl (Subs.c (lkI rfl (by omega)) Subs.n))), ⟨hRL6, ⟨by omega, hS6.mono (by omega) (by omega), hA6, hsub, hle, hgt, fun h => ⟨(hcl h).1, dsucc (P := fun j h2 => ClosedC m S4 m.clauses[j]) (hcl h).2 hlq (fun _ ho => absurd ho.2 hp52)⟩⟩⟩, by first | omega | (dsimp only; omega)⟩
          · have hp44 := ttN hb44 hg44
            refine WL_no rfl rfl hg44 rfl ?_
            refine WL_no rfl rfl hg44 rfl ?_
            refine WL_no rfl rfl hg44 rfl ?_
            refine WL_no rfl rfl hg44 rfl ?_
            refine WL_no rfl rfl hg44 rfl ?_
            refine WL_no rfl rfl hg44 rfl ?_
            refine WL_no rfl rfl hg44 rfl ?_
            refine WL_q rfl (ev_pick_f rfl hg44 rfl) ?_
            refine WL_q rfl (ev_move rfl) ?_
            refine WL_no rfl rfl rfl rfl ?_
            refine WL_no rfl rfl rfl rfl ?_
            refine WL_no rfl rfl rfl rfl ?_
            refine WL_no rfl rfl rfl rfl ?_
            refine WL_no rfl rfl rfl rfl ?_
            refine WL_q rfl (ev_pick_f rfl rfl rfl) ?_
            refine WL_nil ?_
            refine thenE_n ?_
            refine W_cond_f rfl ?_
            refine W_skip ?_
            refine blockE_n ?_
            refine thenE_n ?_
            refine W_region ?_
            refine WL_q rfl (ev_add rfl rfl (by omega)) ?_
            refine WL_q rfl (ev_move rfl) ?_
            refine WL_nil ?_
            refine thenE_n ?_
            exact ⟨(q + 1, f6, a6, c6, S6), (Subs.c rfl (Subs.c rfl (Subs.c rfl Subs.n))), (Subs.c rfl (Subs.c rfl (Subs.c (lkI rfl (by omega)) Subs.n))), ⟨hRL6, ⟨by omega, hS6.mono (by omega) (by omega), hA6, hsub, hle, hgt, fun h => ⟨(hcl h).1, dsucc (P := fun j h2 => ClosedC m S4 m.clauses[j]) (hcl h).2 hlq (fun h1 _ => absurd ((hcl h).1 ▸ h1) hp44)⟩⟩⟩, by first | omega | (dsimp only; omega)⟩
        · have hp38 := of_decide_eq_false hg38
          refine W_exit ?_
          refine thenE_x ?_
          refine thenE_x ?_
          refine blockE_hit ?_
          refine blockE_n ?_
          refine thenE_n ?_
          exact ⟨(f6, a6, c6, S6), (Subs.c rfl Subs.n), (Subs.c rfl (Subs.c rfl Subs.n)), ⟨hRL4, ⟨hS6, hA6, fun l hl s hs => hsub s (hst4 l hl s hs), fun h => by
    obtain ⟨e, hc⟩ := hcl h
    rw [e]
    exact all_of_idx (p := fun c => ClosedC m S4 c) hc (by omega)⟩⟩, mu_dec hgc33 hgt hle (hA6.len hp13).1⟩
      · refine W_exit ?_
        refine thenE_x ?_
        refine thenE_x ?_
        refine blockE_hit ?_
        refine thenE_n ?_
        refine W_seq ?_
        refine W_region ?_
        refine WL_q rfl (ev_move rfl) ?_
        refine WL_q rfl (ev_assign rfl) ?_
        refine WL_q rfl (ev_assign rfl) ?_
        refine WL_nil ?_
        refine thenE_n ?_
        refine W_ret ?_
        refine ret2 rfl rfl rfl ?_
        first | (exact ⟨none, 0, [], false, rfl, .inr ⟨hp13, rfl, rfl⟩, Ints.none0 _ _, hE⟩) | (exact ⟨_, _, S4, true, rfl, .inl ⟨hp13, rfl, hA4.done hst4 (hcl4 hgc33)⟩, hS4, hE⟩)

/-- s is marked. -/
def On (bs : List Bool) (s : Int) : Prop := 0 ≤ s ∧ bs[s.toNat]? = some true
structure BAcc (m : Mach) (bs : List Bool) : Prop where
  len : bs.length = m.states.toNat
  reach : ∀ s, On bs s → Reach m s
theorem On.set {bs : List Bool} {s : Int} (h : On bs s) (j : Nat) : On (bs.set j true) s := ⟨h.1, by
  have hlt : s.toNat < bs.length := (List.getElem?_eq_some_iff.1 h.2).1
  rw [List.getElem?_set]
  split
  · rename_i e; simp [e, hlt]
  · exact h.2⟩
theorem On.self {bs : List Bool} {s : Int} (h0 : 0 ≤ s) (h : s.toNat < bs.length) : On (bs.set s.toNat true) s := ⟨h0, by simp [h]⟩
theorem BAcc.set {m : Mach} {bs : List Bool} {x : Int} (h : BAcc m bs) (h0 : 0 ≤ x) (hx : Reach m x) : BAcc m (bs.set x.toNat true) := ⟨by simp [h.len], fun s hs => by
  by_cases he : s = x
  · subst he; exact hx
  · have h1 := hs.1
    have h2 := hs.2
    rw [List.getElem?_set_ne (by omega)] at h2
    exact h.reach s ⟨h1, h2⟩⟩
theorem BAcc.new (m : Mach) : BAcc m (List.replicate m.states.toNat false) := ⟨by simp, fun s hs => by
  have := hs.2
  rw [List.getElem?_replicate] at this
  split at this <;> simp at this⟩
theorem On.of {bs : List Bool} {s : Int} (h0 : 0 ≤ s) (h : s.toNat < bs.length) (hb : bs[s.toNat] = true) : On bs s := ⟨h0, by rw [List.getElem?_eq_getElem h, hb]⟩
theorem On.not {bs : List Bool} {s : Int} (h : s.toNat < bs.length) (hb : bs[s.toNat] = false) (k : On bs s) : False := by
  have := k.2; rw [List.getElem?_eq_getElem h, hb] at this; cases this
theorem bset {w : World} {g j i : Nat} {T : TypeId} {bs : List Bool} (hj : j = i) (h : Blk w g T ((bs.map VB).set j (VB true))) : Blk w g T ((bs.set i true).map VB) := by subst hj; rw [List.map_set]; exact h
theorem bcell {w : World} {g i j : Nat} {T : TypeId} {bs : List Bool} (h : Blk w g T (bs.map VB)) (hi : i < bs.length) (hj : j = i) : w.cell? ⟨g, j, none⟩ = some (VB bs[i]) := by subst hj; exact h.cell (by simp [hi])
theorem bcount {bs : List Bool} {i : Nat} (h : i < bs.length) (hb : bs[i] = false) : (bs.set i true).count true = bs.count true + 1 := by rw [List.count_set h]; simp [hb]
theorem bcount_le {m : Mach} {bs : List Bool} (h : BAcc m bs) : bs.count true ≤ m.states.toNat := by rw [← h.len]; exact List.count_le_length
def ClosedB (m : Mach) (bs : List Bool) (c : Cl) : Prop := On bs c.1 → Quiet m c.1 → On bs c.2.2
/-- The marked places below j. -/
def trs (bs : List Bool) (j : Nat) : List Int := ((List.range j).filter fun i => decide (bs[i]? = some true)).map fun (i : Nat) => (i : Int)
theorem trs_yes {bs : List Bool} {j : Nat} (h : j < bs.length) (hb : bs[j] = true) : trs bs (j + 1) = trs bs j ++ [(j : Int)] := by simp [trs, List.range_succ, List.filter_append, h, hb]
theorem trs_no {bs : List Bool} {j : Nat} (h : j < bs.length) (hb : bs[j] = false) : trs bs (j + 1) = trs bs j := by simp [trs, List.range_succ, List.filter_append, h, hb]
theorem trs_len (bs : List Bool) (j : Nat) : (trs bs j).length ≤ j := by
  unfold trs; rw [List.length_map]; exact Nat.le_trans (List.length_filter_le _ _) (by simp)
theorem trs_mem {bs : List Bool} {n : Nat} (hn : bs.length = n) (s : Int) : s ∈ trs bs n ↔ On bs s := by
  unfold trs On
  simp only [List.mem_map, List.mem_filter, List.mem_range, decide_eq_true_eq]
  constructor
  · rintro ⟨i, ⟨_, h⟩, rfl⟩; exact ⟨by omega, by simpa using h⟩
  · rintro ⟨h0, h⟩
    refine ⟨s.toNat, ⟨?_, h⟩, by omega⟩
    have := (List.getElem?_eq_some_iff.1 h).1; omega
theorem trs_sorted (bs : List Bool) (n : Nat) : (trs bs n).Pairwise (· < ·) := by
  unfold trs
  rw [List.pairwise_map]
  refine (List.Pairwise.sublist List.filter_sublist List.pairwise_lt_range).imp ?_
  intro a b h; omega
theorem BAcc.done {m : Mach} {bs : List Bool} (h : BAcc m bs) (h1 : ∀ l ∈ m.start, ∀ s ∈ l, On bs s) (h2 : ∀ c ∈ m.clauses, ClosedB m bs c) : RS m (trs bs m.states.toNat) :=
  ⟨trs_sorted _ _, fun s => (trs_mem h.len s).trans ⟨h.reach s, reach_all (P := On bs) h1 h2 s⟩⟩
theorem own_trs {lo : Nat} {w : World} {E : TypeId} {a : Option Addr} {n c j : Nat} {bs : List Bool} (h : Own lo w E 1 a n c ((trs bs j).map VI ++ [VI (j : Int)])) (hj : j < bs.length) (hb : bs[j] = true) (hn : n = (trs bs j).length + 1) : Own lo w E 1 a (trs bs (j + 1)).length c ((trs bs (j + 1)).map VI) := by
  subst hn; rw [trs_yes hj hb]; simpa using h
theorem own_tr0 {lo : Nat} {w : World} {E : TypeId} {bs : List Bool} : Own lo w E 1 none (trs bs 0).length 0 ((trs bs 0).map VI) := Own.nil lo w E 1
theorem own_trn {lo : Nat} {w : World} {E : TypeId} {a : Option Addr} {c j : Nat} {bs : List Bool} (h : Own lo w E 1 a (trs bs j).length c ((trs bs j).map VI)) (hj : j < bs.length) (hb : bs[j] = false) : Own lo w E 1 a (trs bs (j + 1)).length c ((trs bs (j + 1)).map VI) := by rw [trs_no hj hb]; exact h

set_option maxHeartbeats 2000000 in
set_option maxRecDepth 100000 in
theorem Reach_spec {lo hi : Nat} (h : MA) (m : Mach) (w : World) (hM : IsMach lo hi w h m) (hhi : hi ≤ w.heap.size) (hn : totM m ≤ 1048576) :
    Fn Try.prog 33 #[machV h m] w (fun v w' => ∃ a' c' ys q, v = .tuple #[.slice a' ys.length c', VB q] ∧ RSR m ys q ∧ ys.length ≤ 12 ∧ Own w.heap.size w' 3 1 a' ys.length c' (ys.map VI) ∧ Ext w w') := by
  have hq1 := totL_len m.start
  have hq2 := totL_len m.send
  have hq3 := totC_len m.clauses
  have hn0 := hn
  unfold totM at hn
  have hE := Ext.refl w
  refine Fn_of Try.func33 rfl rfl (by kernel_rfl) rfl ?_
  refine W_seq ?_
  refine W_region ?_
  refine WL_m rfl (ev_box rfl) ?_
  rintro _ w1 ⟨rfl, hN1⟩
  have hz1 := hN1.size
  replace hE := hE.trans hN1.ext
  replace hM := hM.ext hN1.ext
  have hB1 : Blk w1 _ _ [_, _, _, _, _, _, _] := hN1.blk
  refine WL_q rfl (ev_assign rfl) ?_
  refine WL_q rfl (ev_assign rfl) ?_
  refine WL_nil ?_
  refine thenE_n ?_
  refine W_seq ?_
  refine W_seq ?_
  refine W_region ?_
  refine WL_q rfl (ev_loads st40 sz40 rfl (cellsB hB1) rfl) ?_
  refine WL_m rfl (ev_call rfl (IsMachine_spec h m _ hM (by omega) (by omega))) ?_
  rintro _ w15 ⟨b15, rfl, hb15, hE15⟩
  have hz15 := hE15.size
  replace hE := hE.trans hE15
  replace hM := hM.ext hE15
  replace hB1 := hB1.ext hE15
  refine WL_q rfl (ev_not rfl) ?_
  refine WL_nil ?_
  refine thenE_n ?_
  refine W_cond rfl (fun hg16 => ?_) (fun hg16 => ?_)
  · have hg15 := not_true hg16
    have hp15 := ttN hb15 hg15
    refine W_seq ?_
    refine W_region ?_
    refine WL_q rfl (ev_assign rfl) ?_
    refine WL_q rfl (ev_assign rfl) ?_
    refine WL_nil ?_
    refine thenE_n ?_
    refine W_ret ?_
    refine thenE_r ?_
    refine ret2 rfl rfl rfl ?_
    first | (exact ⟨none, 0, [], false, rfl, .inr ⟨hp15, rfl, rfl⟩, by simp, Own.nil _ _ _ _, hE⟩) | (have hj9 : j = m.states.toNat := (by omega); have htl := trs_len b4 j; exact ⟨a8, c8, trs b4 j, true, rfl, .inl ⟨hp15, rfl, by rw [hj9]; exact hA4.done hst4 (hcl4 hgc38)⟩, by omega, hO.mono (by omega), hE⟩)
  · have hg15 := not_false hg16
    have hp15 := hb15.1 hg15
    refine W_skip ?_
    refine thenE_n ?_
    refine W_seq ?_
    refine W_region ?_
    refine WL_q rfl (ev_fieldAddr fo40_1 rfl) ?_
    refine WL_q rfl (ev_load one3 rfl (hB1.cell rfl)) ?_
    have hst := hp15.states
    refine WL_m rfl (ev_make Try.underlying91 el4 rfl rfl rfl (by omega) (by omega) (by omega)) ?_
    rintro _ w19 ⟨rfl, hN19⟩
    have hz19 := hN19.size
    replace hE := hE.trans hN19.ext
    replace hM := hM.ext hN19.ext
    replace hB1 := hB1.ext hN19.ext
    have hB19 := hN19.blk
    have hBs0 : Blk w19 w15.heap.size 4 ((List.replicate m.states.toNat false).map VB) := by rw [List.map_replicate]; exact hB19
    refine WL_q rfl (ev_assign rfl) ?_
    refine WL_nil ?_
    refine thenE_n ?_
    refine W_seq ?_
    refine W_seq ?_
    refine W_region ?_
    refine WL_q rfl (ev_fieldAddr fo40_3 rfl) ?_
    refine WL_q rfl (ev_load one31 rfl (hB1.cell rfl)) ?_
    refine WL_q rfl (ev_len Try.underlying31 rfl) ?_
    refine WL_q rfl (ev_move rfl) ?_
    refine WL_nil ?_
    refine thenE_n ?_
    refine W_block ?_
    refine W_loopC (G := Nat × List Bool) [(1, _), (4, _), (21, _), (22, _)] ((Subs.c rfl (Subs.c rfl (Subs.c rfl (Subs.c rfl Subs.n))))) (fun ⟨i, bs⟩ => [(23, VI (i : Int))]) (fun ⟨i, bs⟩ w' => KX (w15.heap.size) w19 w' ∧ i ≤ m.start.length ∧ Blk w' w15.heap.size 4 (bs.map VB) ∧ BAcc m bs ∧ ∀ j (_h : j < i) (h2 : j < m.start.length), ∀ s ∈ m.start[j], On bs s) (fun g => m.start.length - g.1) (0, List.replicate m.states.toNat false) ((Subs.c (lkI rfl (by omega)) Subs.n)) (⟨KX.refl _ _, ⟨by simp, hBs0, BAcc.new m, fun j h => by simp at h⟩⟩) ?_
    rintro ⟨i, bs⟩ wL0 ⟨hRL0, hi', hBs, hA, hJ⟩
    have hzL0 := hRL0.size
    replace hM := hM.kx hRL0 (by omega)
    replace hB1 := hB1.kx hRL0 (by omega)
    replace hE := hE.kx hRL0 (by omega)
    refine W_seq ?_
    refine W_region ?_
    refine WL_q rfl (ev_lss rfl rfl) ?_
    refine WL_nil ?_
    refine thenE_n ?_
    refine W_seq ?_
    refine W_cond rfl (fun hg24 => ?_) (fun hg24 => ?_)
    · have hp24 := of_decide_eq_true hg24
      refine W_skip ?_
      refine thenE_n ?_
      refine W_seq ?_
      refine W_block ?_
      refine W_seq ?_
      refine W_region ?_
      have hlt : i < m.start.length := by omega
      have ht1 := totL_le hlt
      obtain ⟨a2, c2, hc2, hr2⟩ := hM.start.row hlt
      refine WL_q rfl (ev_indexAddr Try.underlying31 sz33 rfl rfl (hM.start.isSome (by omega)) (by omega) (by omega)) ?_
      refine WL_q rfl (ev_load one33 rfl (hc2)) ?_
      refine WL_q rfl (ev_assign rfl) ?_
      refine WL_nil ?_
      refine thenE_n ?_
      refine W_seq ?_
      refine W_region ?_
      refine WL_q rfl (ev_move rfl) ?_
      refine WL_q rfl (ev_len Try.underlying33 rfl) ?_
      refine WL_q rfl (ev_move rfl) ?_
      refine WL_nil ?_
      refine thenE_n ?_
      refine W_block ?_
      refine W_loopC (G := Nat × List Bool) [(1, _), (4, _), (21, _), (22, _), (23, _), (27, _), (28, _)] ((Subs.c rfl (Subs.c rfl (Subs.c rfl (Subs.c rfl (Subs.c rfl (Subs.c rfl (Subs.c rfl Subs.n)))))))) (fun ⟨k, us⟩ => [(29, VI (k : Int))]) (fun ⟨k, us⟩ w' => KX (w15.heap.size) wL0 w' ∧ k ≤ m.start[i].length ∧ Blk w' w15.heap.size 4 (us.map VB) ∧ BAcc m us ∧ (∀ s, On bs s → On us s) ∧ ∀ j (_h : j < k) (h2 : j < m.start[i].length), On us m.start[i][j]) (fun g => m.start[i].length - g.1) (0, bs) ((Subs.c (lkI rfl (by omega)) Subs.n)) (⟨KX.refl _ _, ⟨by simp, hBs, hA, fun s hs => hs, fun j h => by simp at h⟩⟩) ?_
      rintro ⟨k, us⟩ wL2 ⟨hRL2, hk', hBu, hA2, hsub, hJ2⟩
      have hzL2 := hRL2.size
      replace hM := hM.kx hRL2 (by omega)
      replace hB1 := hB1.kx hRL2 (by omega)
      replace hr2 := hr2.kx hRL2 (by omega)
      replace hE := hE.kx hRL2 (by omega)
      replace hRL0 := hRL0.kx hRL2 (by omega)
      refine W_seq ?_
      refine W_region ?_
      refine WL_q rfl (ev_lss rfl rfl) ?_
      refine WL_nil ?_
      refine thenE_n ?_
      refine W_seq ?_
      refine W_cond rfl (fun hg30 => ?_) (fun hg30 => ?_)
      · have hp30 := of_decide_eq_true hg30
        refine W_skip ?_
        refine thenE_n ?_
        refine W_seq ?_
        refine W_block ?_
        refine W_seq ?_
        refine W_region ?_
        have hlk : k < m.start[i].length := by omega
        have hsr := hp15.srow hlt hlk
        have hbl := hA2.len
        refine WL_q rfl (ev_indexAddr Try.underlying33 sz3 rfl rfl (hr2.isSome (by omega)) (by omega) (by omega)) ?_
        refine WL_q rfl (ev_load one3 rfl (hr2.cell (i := k) (by omega))) ?_
        refine WL_q rfl (ev_assign rfl) ?_
        refine WL_nil ?_
        refine thenE_n ?_
        refine W_region ?_
        refine WL_q rfl (ev_move rfl) ?_
        refine WL_q rfl (ev_move rfl) ?_
        refine WL_q rfl (ev_indexAddr Try.underlying91 sz4 rfl rfl rfl hsr.2.1 (by omega)) ?_
        refine WL_s (ev_store sz4 rfl rfl rfl hBu (by simp; omega)) ?_
        rintro _ w10_3 hS10_3
        have hz10_3 := hS10_3.size
        replace hE := hE.sto hS10_3 (by omega)
        replace hRL0 := hRL0.sto hS10_3 (by omega)
        replace hRL2 := hRL2.sto hS10_3 (by omega)
        replace hM := hM.sto hS10_3 (by omega)
        replace hB1 := hB1.sto hS10_3 (by omega)
        replace hr2 := hr2.sto hS10_3 (by omega)
        replace hBu := hS10_3.blk
        refine WL_nil ?_
        refine blockE_n ?_
        refine thenE_n ?_
        refine W_region ?_
        refine WL_q rfl (ev_add rfl rfl (by omega)) ?_
        refine WL_q rfl (ev_move rfl) ?_
        refine WL_nil ?_
        refine thenE_n ?_
        exact ⟨(k + 1, us.set m.start[i][k].toNat true), (Subs.c rfl (Subs.c rfl (Subs.c rfl (Subs.c rfl (Subs.c rfl (Subs.c rfl (Subs.c rfl Subs.n))))))), (Subs.c (lkI rfl (by omega)) Subs.n), ⟨hRL2, ⟨by omega, bset (by omega) hBu, hA2.set hsr.2.1 hsr.1, fun s hs => (hsub s hs).set _, dsucc (P := fun j h2 => On (us.set m.start[i][k].toNat true) m.start[i][j]) (fun j h1 h2 => (hJ2 j h1 h2).set _) hlk (On.self hsr.2.1 (by omega))⟩⟩, by first | omega | (dsimp only; omega)⟩
      · have hp30 := of_decide_eq_false hg30
        refine W_exit ?_
        refine thenE_x ?_
        refine thenE_x ?_
        refine blockE_hit ?_
        refine blockE_n ?_
        refine thenE_n ?_
        refine W_region ?_
        refine WL_q rfl (ev_add rfl rfl (by omega)) ?_
        refine WL_q rfl (ev_move rfl) ?_
        refine WL_nil ?_
        refine thenE_n ?_
        exact ⟨(i + 1, us), (Subs.c rfl (Subs.c rfl (Subs.c rfl (Subs.c rfl Subs.n)))), (Subs.c (lkI rfl (by omega)) Subs.n), ⟨hRL0, ⟨by omega, hBu, hA2, dsucc (P := fun j h2 => ∀ s ∈ m.start[j], On us s) (fun j h1 h2 s hs => hsub s (hJ j h1 h2 s hs)) hlt (all_of_idx (p := On us) hJ2 (by omega))⟩⟩, by first | omega | (dsimp only; omega)⟩
    · have hp24 := of_decide_eq_false hg24
      refine W_exit ?_
      refine thenE_x ?_
      refine thenE_x ?_
      refine blockE_hit ?_
      refine thenE_n ?_
      refine W_seq ?_
      refine W_seq ?_
      refine W_region ?_
      refine WL_q rfl (ev_assign rfl) ?_
      refine WL_nil ?_
      refine thenE_n ?_
      refine W_block ?_
      refine W_loopC (G := Bool × List Bool) [(1, _), (4, _)] ((Subs.c rfl (Subs.c rfl Subs.n))) (fun ⟨f, b4⟩ => [(9, VB f)]) (fun ⟨f, b4⟩ w' => KX (w15.heap.size) wL0 w' ∧ Blk w' w15.heap.size 4 (b4.map VB) ∧ BAcc m b4 ∧ (∀ l ∈ m.start, ∀ s ∈ l, On b4 s) ∧ (f = false → ∀ c ∈ m.clauses, ClosedB m b4 c)) (fun g => 2 * (m.states.toNat - g.2.count true) + (if g.1 = true then 1 else 0)) (true, bs) ((Subs.c rfl Subs.n)) (⟨KX.refl _ _, ⟨hBs, hA, fun l hl => all_of_idx (p := fun l => ∀ s ∈ l, On bs s) hJ (by omega) l hl, fun h => by cases h⟩⟩) ?_
      rintro ⟨f, b4⟩ wL4 ⟨hRL4, hB4, hA4, hst4, hcl4⟩
      have hzL4 := hRL4.size
      replace hM := hM.kx hRL4 (by omega)
      replace hB1 := hB1.kx hRL4 (by omega)
      replace hE := hE.kx hRL4 (by omega)
      replace hRL0 := hRL0.kx hRL4 (by omega)
      refine W_seq ?_
      refine W_seq ?_
      refine W_region ?_
      refine WL_q rfl (ev_move rfl) ?_
      refine WL_nil ?_
      refine thenE_n ?_
      refine W_cond rfl (fun hgc38 => ?_) (fun hgc38 => ?_)
      · refine W_skip ?_
        refine thenE_n ?_
        refine W_block ?_
        refine W_seq ?_
        refine W_region ?_
        refine WL_q rfl (ev_assign rfl) ?_
        refine WL_nil ?_
        refine thenE_n ?_
        refine W_seq ?_
        refine W_region ?_
        refine WL_q rfl (ev_fieldAddr fo40_5 rfl) ?_
        refine WL_q rfl (ev_load one38 rfl (hB1.cell rfl)) ?_
        refine WL_q rfl (ev_len Try.underlying38 rfl) ?_
        refine WL_q rfl (ev_move rfl) ?_
        refine WL_nil ?_
        refine thenE_n ?_
        refine W_block ?_
        refine W_loopC (G := Nat × Bool × List Bool) [(1, _), (4, _), (40, _), (41, _)] ((Subs.c rfl (Subs.c rfl (Subs.c rfl (Subs.c rfl Subs.n))))) (fun ⟨q, f6, b6⟩ => [(9, VB f6), (42, VI (q : Int))]) (fun ⟨q, f6, b6⟩ w' => KX (w15.heap.size) wL4 w' ∧ q ≤ m.clauses.length ∧ Blk w' w15.heap.size 4 (b6.map VB) ∧ BAcc m b6 ∧ (∀ s, On b4 s → On b6 s) ∧ b4.count true ≤ b6.count true ∧ (f6 = true → b4.count true < b6.count true) ∧ (f6 = false → b6 = b4 ∧ ∀ j (_h : j < q) (h2 : j < m.clauses.length), ClosedB m b4 m.clauses[j])) (fun g => m.clauses.length - g.1) (0, false, b4) ((Subs.c rfl (Subs.c (lkI rfl (by omega)) Subs.n))) (⟨KX.refl _ _, ⟨by simp, hB4, hA4, fun s hs => hs, Nat.le_refl _, (fun h => by cases h), fun _ => ⟨rfl, fun j h => by simp at h⟩⟩⟩) ?_
        rintro ⟨q, f6, b6⟩ wL6 ⟨hRL6, hq', hB6, hA6, hsub, hle, hgt, hcl⟩
        have hzL6 := hRL6.size
        replace hM := hM.kx hRL6 (by omega)
        replace hB1 := hB1.kx hRL6 (by omega)
        replace hE := hE.kx hRL6 (by omega)
        replace hRL0 := hRL0.kx hRL6 (by omega)
        replace hRL4 := hRL4.kx hRL6 (by omega)
        refine W_seq ?_
        refine W_region ?_
        refine WL_q rfl (ev_lss rfl rfl) ?_
        refine WL_nil ?_
        refine thenE_n ?_
        refine W_seq ?_
        refine W_cond rfl (fun hg43 => ?_) (fun hg43 => ?_)
        · have hp43 := of_decide_eq_true hg43
          refine W_skip ?_
          refine thenE_n ?_
          refine W_seq ?_
          refine W_block ?_
          refine W_seq ?_
          refine W_region ?_
          have hlq : q < m.clauses.length := by omega
          have hkc := hp15.clauses _ (List.getElem_mem hlq)
          have hol := hp15.outLen
          have hbl := hA6.len
          have hcv : m.clauses[q].1.toNat < m.output.length := by omega
          have hcb : m.clauses[q].1.toNat < b6.length := by omega
          have hcb2 : m.clauses[q].2.2.toNat < b6.length := by omega
          obtain ⟨a5, c5, hc5, hr5⟩ := hM.clauses.cl hlq
          refine WL_q rfl (ev_indexAddr Try.underlying38 sz84 rfl rfl (hM.clauses.isSome (by omega)) (by omega) (by omega)) ?_
          refine WL_q rfl (ev_loads st84 sz84 rfl (hc5) rfl) ?_
          refine WL_m rfl (ev_alloc zr84) ?_
          rintro _ w11 ⟨rfl, hN11⟩
          have hz11 := hN11.size
          replace hE := hE.trans hN11.ext
          replace hRL0 := hRL0.trans hN11.ext
          replace hRL4 := hRL4.trans hN11.ext
          replace hRL6 := hRL6.trans hN11.ext
          replace hM := hM.ext hN11.ext
          replace hB1 := hB1.ext hN11.ext
          replace hB6 := hB6.ext hN11.ext
          have hB11 : Blk w11 _ _ [_, _, _] := hN11.blk
          refine WL_s (ev_stores sz84 rfl rfl rfl (by simp [Value.oneCell']) hB11 (by simp)) ?_
          rintro _ w18_3 hS18_3
          have hz18_3 := hS18_3.size
          replace hE := hE.sto hS18_3 (by omega)
          replace hRL0 := hRL0.sto hS18_3 (by omega)
          replace hRL4 := hRL4.sto hS18_3 (by omega)
          replace hRL6 := hRL6.sto hS18_3 (by omega)
          replace hM := hM.sto hS18_3 (by omega)
          replace hB1 := hB1.sto hS18_3 (by omega)
          replace hB6 := hB6.sto hS18_3 (by omega)
          replace hB11 : Blk w18_3 _ _ [_, _, _] := hS18_3.blk
          refine WL_nil ?_
          refine thenE_n ?_
          refine W_seq ?_
          refine W_region ?_
          refine WL_q rfl (ev_move rfl) ?_
          refine WL_q rfl (ev_fieldAddr fo84_0 rfl) ?_
          refine WL_q rfl (ev_load one3 rfl (hB11.cell rfl)) ?_
          refine WL_q rfl (ev_indexAddr Try.underlying91 sz4 rfl rfl rfl hkc.1.1 (by omega)) ?_
          refine WL_q rfl (ev_load one4 rfl (bcell hB6 hcb (by omega))) ?_
          refine WL_q rfl (ev_move rfl) ?_
          refine WL_splitv (t := 51) rfl (fun hg50 => ?_) (fun hg50 => ?_)
          · refine WL_qg rfl rfl hg50 rfl (ev_fieldAddr fo40_6 rfl) ?_
            refine WL_qg rfl rfl hg50 rfl (ev_load one33 rfl (hB1.cell rfl)) ?_
            refine WL_qg rfl rfl hg50 rfl (ev_fieldAddr fo84_0 rfl) ?_
            refine WL_qg rfl rfl hg50 rfl (ev_load one3 rfl (hB11.cell rfl)) ?_
            refine WL_qg rfl rfl hg50 rfl (ev_indexAddr Try.underlying33 sz3 rfl rfl (hM.output.isSome (by omega)) hkc.1.1 (by omega)) ?_
            refine WL_qg rfl rfl hg50 rfl (ev_load one3 rfl (hM.output.cell (i := m.clauses[q].1.toNat) (by omega))) ?_
            refine WL_qg rfl rfl hg50 rfl (ev_lss rfl rfl) ?_
            refine WL_q rfl (ev_pick_t rfl hg50 rfl) ?_
            refine WL_q rfl (ev_move rfl) ?_
            refine WL_splitv (t := 60) rfl (fun hg58 => ?_) (fun hg58 => ?_)
            · have hp58 := of_decide_eq_true hg58
              refine WL_qg rfl rfl hg58 rfl (ev_move rfl) ?_
              refine WL_qg rfl rfl hg58 rfl (ev_fieldAddr fo84_2 rfl) ?_
              refine WL_qg rfl rfl hg58 rfl (ev_load one3 rfl (hB11.cell rfl)) ?_
              refine WL_qg rfl rfl hg58 rfl (ev_indexAddr Try.underlying91 sz4 rfl rfl rfl hkc.2.1.1 (by omega)) ?_
              refine WL_qg rfl rfl hg58 rfl (ev_load one4 rfl (bcell hB6 hcb2 (by omega))) ?_
              refine WL_qg rfl rfl hg58 rfl (ev_not rfl) ?_
              refine WL_q rfl (ev_pick_t rfl hg58 rfl) ?_
              refine WL_nil ?_
              refine thenE_n ?_
              refine W_cond rfl (fun hg66 => ?_) (fun hg66 => ?_)
              · have hg65 := not_true hg66
                refine W_region ?_
                refine WL_q rfl (ev_move rfl) ?_
                refine WL_q rfl (ev_fieldAddr fo84_2 rfl) ?_
                refine WL_q rfl (ev_load one3 rfl (hB11.cell rfl)) ?_
                refine WL_q rfl (ev_indexAddr Try.underlying91 sz4 rfl rfl rfl hkc.2.1.1 (by omega)) ?_
                refine WL_s (ev_store sz4 rfl rfl rfl hB6 (by simp; omega)) ?_
                rintro _ w20_4 hS20_4
                have hz20_4 := hS20_4.size
                replace hE := hE.sto hS20_4 (by omega)
                replace hRL0 := hRL0.sto hS20_4 (by omega)
                replace hRL4 := hRL4.sto hS20_4 (by omega)
                replace hRL6 := hRL6.sto hS20_4 (by omega)
                replace hM := hM.sto hS20_4 (by omega)
                replace hB1 := hB1.sto hS20_4 (by omega)
                replace hB11 := hB11.sto hS20_4 (by omega)
                replace hB6 := hS20_4.blk
                refine WL_q rfl (ev_assign rfl) ?_
                refine WL_nil ?_
                refine blockE_n ?_
                refine thenE_n ?_
                refine W_region ?_
                refine WL_q rfl (ev_add rfl rfl (by omega)) ?_
                refine WL_q rfl (ev_move rfl) ?_
                refine WL_nil ?_
                refine thenE_n ?_
                exact ⟨(q + 1, true, b6.set m.clauses[q].2.2.toNat true), (Subs.c rfl (Subs.c rfl (Subs.c rfl (Subs.c rfl Subs.n)))), (Subs.c rfl (Subs.c (lkI rfl (by omega)) Subs.n)), ⟨hRL6, ⟨by omega, bset (by omega) hB6, hA6.set hkc.2.1.1 (.step (List.getElem_mem hlq) (hA6.reach _ (On.of hkc.1.1 hcb hg50)) ⟨hcv, hp58⟩), fun s hs => (hsub s hs).set _, by have := bcount hcb2 hg65; omega, (fun _ => by have := bcount hcb2 hg65; omega), fun h => by cases h⟩⟩, by first | omega | (dsimp only; omega)⟩
              · have hg65 := not_false hg66
                refine W_skip ?_
                refine blockE_n ?_
                refine thenE_n ?_
                refine W_region ?_
                refine WL_q rfl (ev_add rfl rfl (by omega)) ?_
                refine WL_q rfl (ev_move rfl) ?_
                refine WL_nil ?_
                refine thenE_n ?_
                exact ⟨(q + 1, f6, b6), (Subs.c rfl (Subs.c rfl (Subs.c rfl (Subs.c rfl Subs.n)))), (Subs.c rfl (Subs.c (lkI rfl (by omega)) Subs.n)), ⟨hRL6, ⟨by omega, hB6, hA6, hsub, hle, hgt, fun h => ⟨(hcl h).1, dsucc (P := fun j h2 => ClosedB m b4 m.clauses[j]) (hcl h).2 hlq (fun _ _ => (hcl h).1 ▸ On.of hkc.2.1.1 hcb2 hg65)⟩⟩⟩, by first | omega | (dsimp only; omega)⟩
            · have hp58 := of_decide_eq_false hg58
              refine WL_no rfl rfl hg58 rfl ?_
              refine WL_no rfl rfl hg58 rfl ?_
              refine WL_no rfl rfl hg58 rfl ?_
              refine WL_no rfl rfl hg58 rfl ?_
              refine WL_no rfl rfl hg58 rfl ?_
              refine WL_no rfl rfl hg58 rfl ?_
              refine WL_q rfl (ev_pick_f rfl hg58 rfl) ?_
              refine WL_nil ?_
              refine thenE_n ?_
              refine W_cond_f rfl ?_
              refine W_skip ?_
              refine blockE_n ?_
              refine thenE_n ?_
              refine W_region ?_
              refine WL_q rfl (ev_add rfl rfl (by omega)) ?_
              refine WL_q rfl (ev_move rfl) ?_
              refine WL_nil ?_
              refine thenE_n ?_
              exact ⟨(q + 1, f6, b6), (Subs.c rfl (Subs.c rfl (Subs.c rfl (Subs.c rfl Subs.n)))), (Subs.c rfl (Subs.c (lkI rfl (by omega)) Subs.n)), ⟨hRL6, ⟨by omega, hB6, hA6, hsub, hle, hgt, fun h => ⟨(hcl h).1, dsucc (P := fun j h2 => ClosedB m b4 m.clauses[j]) (hcl h).2 hlq (fun _ ho => absurd ho.2 hp58)⟩⟩⟩, by first | omega | (dsimp only; omega)⟩
          · refine WL_no rfl rfl hg50 rfl ?_
            refine WL_no rfl rfl hg50 rfl ?_
            refine WL_no rfl rfl hg50 rfl ?_
            refine WL_no rfl rfl hg50 rfl ?_
            refine WL_no rfl rfl hg50 rfl ?_
            refine WL_no rfl rfl hg50 rfl ?_
            refine WL_no rfl rfl hg50 rfl ?_
            refine WL_q rfl (ev_pick_f rfl hg50 rfl) ?_
            refine WL_q rfl (ev_move rfl) ?_
            refine WL_no rfl rfl rfl rfl ?_
            refine WL_no rfl rfl rfl rfl ?_
            refine WL_no rfl rfl rfl rfl ?_
            refine WL_no rfl rfl rfl rfl ?_
            refine WL_no rfl rfl rfl rfl ?_
            refine WL_no rfl rfl rfl rfl ?_
            refine WL_q rfl (ev_pick_f rfl rfl rfl) ?_
            refine WL_nil ?_
            refine thenE_n ?_
            refine W_cond_f rfl ?_
            refine W_skip ?_
            refine blockE_n ?_
            refine thenE_n ?_
            refine W_region ?_
            refine WL_q rfl (ev_add rfl rfl (by omega)) ?_
            refine WL_q rfl (ev_move rfl) ?_
            refine WL_nil ?_
            refine thenE_n ?_
            exact ⟨(q + 1, f6, b6), (Subs.c rfl (Subs.c rfl (Subs.c rfl (Subs.c rfl Subs.n)))), (Subs.c rfl (Subs.c (lkI rfl (by omega)) Subs.n)), ⟨hRL6, ⟨by omega, hB6, hA6, hsub, hle, hgt, fun h => ⟨(hcl h).1, dsucc (P := fun j h2 => ClosedB m b4 m.clauses[j]) (hcl h).2 hlq (fun h1 _ => (On.not hcb hg50 ((hcl h).1 ▸ h1)).elim)⟩⟩⟩, by first | omega | (dsimp only; omega)⟩
        · have hp43 := of_decide_eq_false hg43
          refine W_exit ?_
          refine thenE_x ?_
          refine thenE_x ?_
          refine blockE_hit ?_
          refine blockE_n ?_
          refine thenE_n ?_
          exact ⟨(f6, b6), (Subs.c rfl (Subs.c rfl Subs.n)), (Subs.c rfl Subs.n), ⟨hRL4, ⟨hB6, hA6, fun l hl s hs => hsub s (hst4 l hl s hs), fun h => by
    obtain ⟨e, hc⟩ := hcl h
    rw [e]
    exact all_of_idx (p := fun c => ClosedB m b4 c) hc (by omega)⟩⟩, mu_dec hgc38 hgt hle (bcount_le hA6)⟩
      · refine W_exit ?_
        refine thenE_x ?_
        refine thenE_x ?_
        refine blockE_hit ?_
        refine thenE_n ?_
        refine W_seq ?_
        refine W_region ?_
        refine WL_q rfl (ev_assign rfl) ?_
        refine WL_nil ?_
        refine thenE_n ?_
        refine W_seq ?_
        refine W_seq ?_
        refine W_region ?_
        refine WL_q rfl (ev_move rfl) ?_
        refine WL_q rfl (ev_len Try.underlying91 rfl) ?_
        refine WL_q rfl (ev_move rfl) ?_
        refine WL_nil ?_
        refine thenE_n ?_
        refine W_block ?_
        have hbl4 := hA4.len
        refine W_loopC (G := Nat × Option Addr × Nat) [(4, _), (74, _)] ((Subs.c rfl (Subs.c rfl Subs.n))) (fun ⟨j, a8, c8⟩ => [(12, .slice a8 (trs b4 j).length c8), (75, VI (j : Int))]) (fun ⟨j, a8, c8⟩ w' => Ext wL4 w' ∧ j ≤ m.states.toNat ∧ Blk w' w15.heap.size 4 (b4.map VB) ∧ Own wL4.heap.size w' 3 1 a8 (trs b4 j).length c8 ((trs b4 j).map VI)) (fun g => m.states.toNat - g.1) (0, none, 0) ((Subs.c rfl (Subs.c (lkI rfl (by omega)) Subs.n))) (⟨Ext.refl _, ⟨by simp, hB4, own_tr0⟩⟩) ?_
        rintro ⟨j, a8, c8⟩ wL8 ⟨hRL8, hj', hBb, hO⟩
        have hzL8 := hRL8.size
        replace hE := hE.trans hRL8
        replace hRL0 := hRL0.trans hRL8
        replace hRL4 := hRL4.trans hRL8
        replace hM := hM.ext hRL8
        replace hB1 := hB1.ext hRL8
        refine W_seq ?_
        refine W_region ?_
        refine WL_q rfl (ev_lss rfl rfl) ?_
        refine WL_nil ?_
        refine thenE_n ?_
        refine W_seq ?_
        refine W_cond rfl (fun hg76 => ?_) (fun hg76 => ?_)
        · have hp76 := of_decide_eq_true hg76
          refine W_skip ?_
          refine thenE_n ?_
          refine W_seq ?_
          refine W_block ?_
          refine W_seq ?_
          refine W_region ?_
          refine WL_q rfl (ev_move rfl) ?_
          refine WL_q rfl (ev_assign rfl) ?_
          refine WL_nil ?_
          refine thenE_n ?_
          refine W_seq ?_
          refine W_region ?_
          refine WL_q rfl (ev_move rfl) ?_
          refine WL_q rfl (ev_move rfl) ?_
          have hjl : j < b4.length := by omega
          have htl := trs_len b4 j
          refine WL_q rfl (ev_indexAddr Try.underlying91 sz4 rfl rfl rfl (by omega) (by omega)) ?_
          refine WL_q rfl (ev_load one4 rfl (bcell hBb hjl (by omega))) ?_
          refine WL_nil ?_
          refine thenE_n ?_
          refine W_cond rfl (fun hg81 => ?_) (fun hg81 => ?_)
          · refine W_region ?_
            refine WL_q rfl (ev_move rfl) ?_
            refine WL_q rfl (ev_move rfl) ?_
            refine WL_m rfl (ev_lit1 Try.underlying33 el3 (by decide) (by decide) rfl rfl) ?_
            rintro _ w84 ⟨rfl, hN84⟩
            have hz84 := hN84.size
            replace hE := hE.trans hN84.ext
            replace hRL0 := hRL0.trans hN84.ext
            replace hRL4 := hRL4.trans hN84.ext
            replace hRL8 := hRL8.trans hN84.ext
            replace hM := hM.ext hN84.ext
            replace hB1 := hB1.ext hN84.ext
            replace hBb := hBb.ext hN84.ext
            replace hO := hO.ext hN84.ext
            have hB84 := hN84.blk
            refine WL_m rfl (ev_append Try.underlying33 el3 rfl (by decide) rfl rfl hO (SAt.of_blk (cs := [_]) (ds := []) hB84) rfl (by simp [Value.oneCell']) (by omega) (by unfold maxLen; omega) (by omega)) ?_
            rintro _ w85 ⟨a85, c85, rfl, hO85, hK85, hQ85⟩
            have hz85 := hK85.size
            replace hE := hE.app hK85 (fun q hq => by have := (hO.block q hq).1; omega)
            replace hRL0 := hRL0.app hK85 (fun q hq => by have := (hO.block q hq).1; omega)
            replace hRL4 := hRL4.app hK85 (fun q hq => by have := (hO.block q hq).1; omega)
            replace hRL8 := hRL8.app hK85 (fun q hq => by have := (hO.block q hq).1; omega)
            replace hM := hM.app hK85 (hO) (by omega)
            replace hB1 := hB1.app hK85 (hO) (by omega)
            replace hBb := hBb.app hK85 (hO) (by omega)
            replace hO := hO85
            refine WL_q rfl (ev_assign rfl) ?_
            refine WL_nil ?_
            refine blockE_n ?_
            refine thenE_n ?_
            refine W_region ?_
            refine WL_q rfl (ev_add rfl rfl (by omega)) ?_
            refine WL_q rfl (ev_move rfl) ?_
            refine WL_nil ?_
            refine thenE_n ?_
            exact ⟨(j + 1, a85, c85), (Subs.c rfl (Subs.c rfl Subs.n)), (Subs.c (lkS rfl (by rw [trs_yes hjl hg81]; simp)) (Subs.c (lkI rfl (by omega)) Subs.n)), ⟨hRL8, ⟨by omega, hBb, own_trs hO hjl hg81 rfl⟩⟩, by first | omega | (dsimp only; omega)⟩
          · refine W_skip ?_
            refine blockE_n ?_
            refine thenE_n ?_
            refine W_region ?_
            refine WL_q rfl (ev_add rfl rfl (by omega)) ?_
            refine WL_q rfl (ev_move rfl) ?_
            refine WL_nil ?_
            refine thenE_n ?_
            exact ⟨(j + 1, a8, c8), (Subs.c rfl (Subs.c rfl Subs.n)), (Subs.c (lkS rfl (by rw [trs_no hjl hg81])) (Subs.c (lkI rfl (by omega)) Subs.n)), ⟨hRL8, ⟨by omega, hBb, own_trn hO hjl hg81⟩⟩, by first | omega | (dsimp only; omega)⟩
        · have hp76 := of_decide_eq_false hg76
          refine W_exit ?_
          refine thenE_x ?_
          refine thenE_x ?_
          refine blockE_hit ?_
          refine thenE_n ?_
          refine W_seq ?_
          refine W_region ?_
          refine WL_q rfl (ev_move rfl) ?_
          refine WL_q rfl (ev_assign rfl) ?_
          refine WL_q rfl (ev_assign rfl) ?_
          refine WL_nil ?_
          refine thenE_n ?_
          refine W_ret ?_
          refine ret2 rfl rfl rfl ?_
          first | (exact ⟨none, 0, [], false, rfl, .inr ⟨hp15, rfl, rfl⟩, by simp, Own.nil _ _ _ _, hE⟩) | (have hj9 : j = m.states.toNat := (by omega); have htl := trs_len b4 j; exact ⟨a8, c8, trs b4 j, true, rfl, .inl ⟨hp15, rfl, by rw [hj9]; exact hA4.done hst4 (hcl4 hgc38)⟩, by omega, hO.mono (by omega), hE⟩)

theorem tfR (h : true = false) : False := by cases h

set_option maxRecDepth 100000 in
theorem law_ReachableStates (h : MA) (m : Mach) (w : World) (hM : IsMach 0 w.heap.size w h m) (hs : SmM m) :
    Fn Try.prog 8 #[machV h m] w (fun v w' => v = VB true ∧ Ext w w') := by
  have hE := Ext.refl w
  refine Fn_of Try.func8 rfl rfl (by kernel_rfl) rfl ?_
  refine W_seq ?_
  refine W_region ?_
  refine WL_m rfl (ev_box rfl) ?_
  rintro _ w1 ⟨rfl, hN1⟩
  have hz1 := hN1.size
  replace hE := hE.trans hN1.ext
  replace hM := hM.ext hN1.ext
  have hB1 : Blk w1 _ _ [_, _, _, _, _, _, _] := hN1.blk
  refine WL_q rfl (ev_assign rfl) ?_
  refine WL_nil ?_
  refine thenE_n ?_
  refine W_seq ?_
  refine W_region ?_
  refine WL_q rfl (ev_assign rfl) ?_
  refine WL_nil ?_
  refine thenE_n ?_
  refine W_seq ?_
  refine W_region ?_
  refine WL_q rfl (ev_loads st35 sz35 rfl (cellsB hB1) rfl) ?_
  refine WL_q rfl (ev_move rfl) ?_
  refine WL_m rfl (ev_call rfl (szMachine_spec h m _ _ hM (by omega) hs)) ?_
  rintro _ w16 ⟨r16, rfl, hE16, hr16⟩
  have hz16 := hE16.size
  replace hE := hE.trans hE16
  replace hM := hM.ext hE16
  replace hB1 := hB1.ext hE16
  refine WL_q rfl (ev_assign rfl) ?_
  refine WL_nil ?_
  refine thenE_n ?_
  refine W_seq ?_
  refine W_seq ?_
  refine W_region ?_
  refine WL_q rfl (ev_move rfl) ?_
  refine WL_q rfl (ev_lss rfl rfl) ?_
  refine WL_nil ?_
  refine thenE_n ?_
  refine W_cond rfl (fun hg18 => ?_) (fun hg18 => ?_)
  · have hp18 := of_decide_eq_true hg18
    refine W_seq ?_
    refine W_region ?_
    refine WL_q rfl (ev_assign rfl) ?_
    refine WL_nil ?_
    refine thenE_n ?_
    refine W_ret ?_
    refine thenE_r ?_
    refine ret1 rfl rfl ?_
    first | (exact ⟨rfl, hE⟩) | (exact absurd (hr29.det1 hr22) (of_decide_eq_false hg34)) | (exact (bneE hg39 (hr29.det2 hr22)).elim) | (exact (tfR hg44).elim) | (exact absurd (hr29.det1 hr22) (of_decide_eq_false hg54)) | (exact (bneE hg60 (hr29.det2 hr22)).elim) | (exact absurd (hr76.det1 hr22) (of_decide_eq_false hg81)) | (exact (bneE hg86 (hr76.det2 hr22)).elim) | (exfalso; omega)
  · have hp18 := of_decide_eq_false hg18
    refine W_skip ?_
    refine thenE_n ?_
    refine W_seq ?_
    refine W_region ?_
    refine WL_q rfl (ev_loads st35 sz35 rfl (cellsB hB1) rfl) ?_
    refine WL_m rfl (ev_call rfl (toMachine_spec h m _ hM (by omega) (by omega))) ?_
    rintro _ w21 ⟨h21, rfl, hF21, hE21⟩
    have hz21 := hE21.size
    replace hE := hE.trans hE21
    replace hM := hM.ext hE21
    replace hB1 := hB1.ext hE21
    have hM21 := hF21.is
    refine WL_m rfl (ev_call rfl (sReach_spec h21 m _ hM21 (by omega) (by omega))) ?_
    rintro _ w22 ⟨a22, c22, y22, q22, rfl, hr22, hx22, hE22⟩
    have hz22 := hE22.size
    replace hE := hE.trans hE22
    replace hM := hM.ext hE22
    replace hB1 := hB1.ext hE22
    replace hM21 := hM21.ext hE22
    refine WL_q rfl (ev_move rfl) ?_
    refine WL_q rfl (ev_extract rfl rfl) ?_
    refine WL_q rfl (ev_extract rfl rfl) ?_
    refine WL_q rfl (ev_assign rfl) ?_
    refine WL_q rfl (ev_assign rfl) ?_
    refine WL_nil ?_
    refine thenE_n ?_
    refine W_seq ?_
    refine W_region ?_
    refine WL_q rfl (ev_loads st35 sz35 rfl (cellsB hB1) rfl) ?_
    refine WL_m rfl (ev_call rfl (toMachine_spec h m _ hM (by omega) (by omega))) ?_
    rintro _ w26 ⟨h26, rfl, hF26, hE26⟩
    have hz26 := hE26.size
    replace hE := hE.trans hE26
    replace hM := hM.ext hE26
    replace hB1 := hB1.ext hE26
    replace hM21 := hM21.ext hE26
    replace hx22 := hx22.ext hE26
    have hM26 := hF26.is
    refine WL_m rfl (ev_alloc zr40) ?_
    rintro _ w6 ⟨rfl, hN6⟩
    have hz6 := hN6.size
    replace hE := hE.trans hN6.ext
    replace hM := hM.ext hN6.ext
    replace hB1 := hB1.ext hN6.ext
    replace hM21 := hM21.ext hN6.ext
    replace hx22 := hx22.ext hN6.ext
    replace hF26 := hF26.ext hN6.ext
    replace hM26 := hM26.ext hN6.ext
    have hB6 : Blk w6 _ _ [_, _, _, _, _, _, _] := hN6.blk
    refine WL_s (ev_stores sz40 rfl rfl rfl (by simp [Value.oneCell']) hB6 (by simp)) ?_
    rintro _ w6_3 hS6_3
    have hz6_3 := hS6_3.size
    replace hE := hE.sto hS6_3 (by omega)
    replace hM := hM.sto hS6_3 (by omega)
    replace hB1 := hB1.sto hS6_3 (by omega)
    replace hM21 := hM21.sto hS6_3 (by omega)
    replace hx22 := hx22.sto hS6_3 (by omega)
    replace hF26 := hF26.sto hS6_3 (by omega)
    replace hM26 := hM26.sto hS6_3 (by omega)
    replace hB6 : Blk w6_3 _ _ [_, _, _, _, _, _, _] := hS6_3.blk
    refine WL_nil ?_
    refine thenE_n ?_
    refine W_seq ?_
    refine W_region ?_
    refine WL_q rfl (ev_loads st40 sz40 rfl (cellsB hB6) rfl) ?_
    refine WL_m rfl (ev_call rfl (Reach_spec h26 m _ hM26 (by omega) (by omega))) ?_
    rintro _ w29 ⟨a29, c29, y29, q29, rfl, hr29, hl29, hO29, hE29⟩
    have hz29 := hE29.size
    replace hE := hE.trans hE29
    replace hM := hM.ext hE29
    replace hB1 := hB1.ext hE29
    replace hM21 := hM21.ext hE29
    replace hx22 := hx22.ext hE29
    replace hF26 := hF26.ext hE29
    replace hM26 := hM26.ext hE29
    replace hB6 := hB6.ext hE29
    refine WL_q rfl (ev_move rfl) ?_
    refine WL_q rfl (ev_extract rfl rfl) ?_
    refine WL_q rfl (ev_extract rfl rfl) ?_
    refine WL_q rfl (ev_assign rfl) ?_
    refine WL_q rfl (ev_assign rfl) ?_
    refine WL_nil ?_
    refine thenE_n ?_
    refine W_seq ?_
    refine W_seq ?_
    refine W_region ?_
    refine WL_q rfl (ev_move rfl) ?_
    refine WL_q rfl (ev_move rfl) ?_
    refine WL_m rfl (ev_call rfl (eqIntS_spec _ _ _ _ y29 y22 _ (Ints.of_own rfl hO29) hx22 (by omega))) ?_
    rintro _ w34 ⟨rfl, hE34⟩
    have hz34 := hE34.size
    replace hE := hE.trans hE34
    replace hM := hM.ext hE34
    replace hB1 := hB1.ext hE34
    replace hM21 := hM21.ext hE34
    replace hx22 := hx22.ext hE34
    replace hF26 := hF26.ext hE34
    replace hM26 := hM26.ext hE34
    replace hB6 := hB6.ext hE34
    replace hO29 := hO29.ext hE34
    refine WL_q rfl (ev_not rfl) ?_
    refine WL_q rfl (ev_move rfl) ?_
    refine WL_splitv (t := 36) rfl (fun hg35 => ?_) (fun hg35 => ?_)
    · have hg34 := not_true hg35
      refine WL_no rfl rfl hg35 rfl ?_
      refine WL_no rfl rfl hg35 rfl ?_
      refine WL_no rfl rfl hg35 rfl ?_
      refine WL_q rfl (ev_pick_t rfl hg35 rfl) ?_
      refine WL_nil ?_
      refine thenE_n ?_
      refine W_cond_t rfl ?_
      refine W_seq ?_
      refine W_region ?_
      refine WL_q rfl (ev_assign rfl) ?_
      refine WL_nil ?_
      refine thenE_n ?_
      refine W_ret ?_
      refine thenE_r ?_
      refine ret1 rfl rfl ?_
      first | (exact ⟨rfl, hE⟩) | (exact absurd (hr29.det1 hr22) (of_decide_eq_false hg34)) | (exact (bneE hg39 (hr29.det2 hr22)).elim) | (exact (tfR hg44).elim) | (exact absurd (hr29.det1 hr22) (of_decide_eq_false hg54)) | (exact (bneE hg60 (hr29.det2 hr22)).elim) | (exact absurd (hr76.det1 hr22) (of_decide_eq_false hg81)) | (exact (bneE hg86 (hr76.det2 hr22)).elim) | (exfalso; omega)
    · have hg34 := not_false hg35
      refine WL_qg rfl rfl hg35 rfl (ev_move rfl) ?_
      refine WL_qg rfl rfl hg35 rfl (ev_move rfl) ?_
      refine WL_qg rfl rfl hg35 rfl (ev_neq_b Try.underlying4 rfl rfl) ?_
      refine WL_q rfl (ev_pick_f rfl hg35 rfl) ?_
      refine WL_nil ?_
      refine thenE_n ?_
      refine W_cond rfl (fun hg39 => ?_) (fun hg39 => ?_)
      · refine W_seq ?_
        refine W_region ?_
        refine WL_q rfl (ev_assign rfl) ?_
        refine WL_nil ?_
        refine thenE_n ?_
        refine W_ret ?_
        refine thenE_r ?_
        refine ret1 rfl rfl ?_
        first | (exact ⟨rfl, hE⟩) | (exact absurd (hr29.det1 hr22) (of_decide_eq_false hg34)) | (exact (bneE hg39 (hr29.det2 hr22)).elim) | (exact (tfR hg44).elim) | (exact absurd (hr29.det1 hr22) (of_decide_eq_false hg54)) | (exact (bneE hg60 (hr29.det2 hr22)).elim) | (exact absurd (hr76.det1 hr22) (of_decide_eq_false hg81)) | (exact (bneE hg86 (hr76.det2 hr22)).elim) | (exfalso; omega)
      · refine W_skip ?_
        refine thenE_n ?_
        refine W_seq ?_
        refine W_seq ?_
        refine W_drawE [(0, true), (1, true), (2, false), (3, false), (4, true)] mixed (by kernel_rfl) rfl (by kernel_rfl) ?_
        intro wd10 hEd10 hzd10
        replace hE := hE.trans hEd10
        replace hM := hM.ext hEd10
        replace hB1 := hB1.ext hEd10
        replace hM21 := hM21.ext hEd10
        replace hx22 := hx22.ext hEd10
        replace hF26 := hF26.ext hEd10
        replace hM26 := hM26.ext hEd10
        replace hB6 := hB6.ext hEd10
        replace hO29 := hO29.ext hEd10
        have hDd10 := Ext.refl wd10
        refine PW_q rfl rfl (fun wq hq => ev_loads st40 sz40 rfl (cellsB (hq.blk hB6)) rfl) ?_
        refine PW_q rfl rfl (fun wq hq => ev_loads st35 sz35 rfl (cellsB (hq.blk hB1)) rfl) ?_
        refine PW_m rfl rfl (ev_call rfl (toMachine_spec h m _ hM (by omega) (by omega))) ?_
        rintro _ w43 ⟨h43, rfl, hF43, hE43⟩
        have hz43 := hE43.size
        replace hE := hE.trans hE43
        replace hDd10 := hDd10.trans hE43
        have hM43 := hF43.is
        refine ⟨hDd10, ?_⟩
        have hM_3 := hM.ext hDd10
        have hB1_3 := hB1.ext hDd10
        have hM21_3 := hM21.ext hDd10
        have hx22_3 := hx22.ext hDd10
        have hF26_3 := hF26.ext hDd10
        have hM26_3 := hM26.ext hDd10
        have hB6_3 := hB6.ext hDd10
        have hO29_3 := hO29.ext hDd10
        refine PW_m rfl rfl (ev_call rfl (eqMachine_spec h26 h43 m _ hM26_3 hM43 (by omega))) ?_
        rintro _ w44 ⟨rfl, hE44⟩
        have hz44 := hE44.size
        replace hE := hE.trans hE44
        replace hDd10 := hDd10.trans hE44
        refine ⟨hDd10, ?_⟩
        refine PW_q rfl rfl (fun wq hq => ev_not rfl) ?_
        replace hM := hM.ext hDd10
        replace hB1 := hB1.ext hDd10
        replace hM21 := hM21.ext hDd10
        replace hx22 := hx22.ext hDd10
        replace hF26 := hF26.ext hDd10
        replace hM26 := hM26.ext hDd10
        replace hB6 := hB6.ext hDd10
        replace hO29 := hO29.ext hDd10
        refine PW_nil ?_
        refine thenE_n ?_
        refine W_cond rfl (fun hg45 => ?_) (fun hg45 => ?_)
        · have hg44 := not_true hg45
          refine W_seq ?_
          refine W_region ?_
          refine WL_q rfl (ev_assign rfl) ?_
          refine WL_nil ?_
          refine thenE_n ?_
          refine W_ret ?_
          refine thenE_r ?_
          refine ret1 rfl rfl ?_
          first | (exact ⟨rfl, hE⟩) | (exact absurd (hr29.det1 hr22) (of_decide_eq_false hg34)) | (exact (bneE hg39 (hr29.det2 hr22)).elim) | (exact (tfR hg44).elim) | (exact absurd (hr29.det1 hr22) (of_decide_eq_false hg54)) | (exact (bneE hg60 (hr29.det2 hr22)).elim) | (exact absurd (hr76.det1 hr22) (of_decide_eq_false hg81)) | (exact (bneE hg86 (hr76.det2 hr22)).elim) | (exfalso; omega)
        · have hg44 := not_false hg45
          refine W_skip ?_
          refine thenE_n ?_
          refine W_seq ?_
          refine W_region ?_
          refine WL_q rfl (ev_assign rfl) ?_
          refine WL_nil ?_
          refine thenE_n ?_
          refine W_seq ?_
          refine W_region ?_
          refine WL_q rfl (ev_loads st40 sz40 rfl (cellsB hB6) rfl) ?_
          refine WL_q rfl (ev_move rfl) ?_
          refine WL_m rfl (ev_call rfl (markMachine_spec h26 m _ _ hF26 (by omega) (by omega) (by omega))) ?_
          rintro _ w48 ⟨r48, rfl, hr48, hK48⟩
          have hz48 := hK48.size
          replace hE := hE.mrk hK48 (by omega)
          replace hM := hM.mrk hK48 (by omega)
          replace hB1 := hB1.mrk hK48 (by omega)
          replace hM21 := hM21.mrk hK48 (by omega)
          replace hx22 := hx22.mrk hK48 (by omega)
          replace hB6 := hB6.mrk hK48 (by omega)
          replace hO29 := hO29.mrk hK48 (by omega)
          refine WL_q rfl (ev_assign rfl) ?_
          refine WL_nil ?_
          refine thenE_n ?_
          refine W_seq ?_
          refine W_seq ?_
          refine W_region ?_
          refine WL_q rfl (ev_move rfl) ?_
          refine WL_q rfl (ev_lss rfl rfl) ?_
          refine WL_q rfl (ev_move rfl) ?_
          refine WL_splitv (t := 51) rfl (fun hg50 => ?_) (fun hg50 => ?_)
          · have hp50 := of_decide_eq_true hg50
            refine WL_no rfl rfl hg50 rfl ?_
            refine WL_no rfl rfl hg50 rfl ?_
            refine WL_no rfl rfl hg50 rfl ?_
            refine WL_no rfl rfl hg50 rfl ?_
            refine WL_q rfl (ev_pick_t rfl hg50 rfl) ?_
            refine WL_q rfl (ev_move rfl) ?_
            refine WL_no rfl rfl rfl rfl ?_
            refine WL_no rfl rfl rfl rfl ?_
            refine WL_no rfl rfl rfl rfl ?_
            refine WL_q rfl (ev_pick_t rfl rfl rfl) ?_
            refine WL_nil ?_
            refine thenE_n ?_
            refine W_cond_t rfl ?_
            refine W_seq ?_
            refine W_region ?_
            refine WL_q rfl (ev_assign rfl) ?_
            refine WL_nil ?_
            refine thenE_n ?_
            refine W_ret ?_
            refine thenE_r ?_
            refine ret1 rfl rfl ?_
            first | (exact ⟨rfl, hE⟩) | (exact absurd (hr29.det1 hr22) (of_decide_eq_false hg34)) | (exact (bneE hg39 (hr29.det2 hr22)).elim) | (exact (tfR hg44).elim) | (exact absurd (hr29.det1 hr22) (of_decide_eq_false hg54)) | (exact (bneE hg60 (hr29.det2 hr22)).elim) | (exact absurd (hr76.det1 hr22) (of_decide_eq_false hg81)) | (exact (bneE hg86 (hr76.det2 hr22)).elim) | (exfalso; omega)
          · have hp50 := of_decide_eq_false hg50
            refine WL_qg rfl rfl hg50 rfl (ev_move rfl) ?_
            refine WL_qg rfl rfl hg50 rfl (ev_move rfl) ?_
            refine WL_mg rfl rfl hg50 rfl (ev_call rfl (eqIntS_spec _ _ _ _ y29 y22 _ (Ints.of_own rfl hO29) hx22 (by omega))) ?_
            rintro _ w54 ⟨rfl, hE54⟩
            have hz54 := hE54.size
            replace hE := hE.trans hE54
            replace hM := hM.ext hE54
            replace hB1 := hB1.ext hE54
            replace hM21 := hM21.ext hE54
            replace hx22 := hx22.ext hE54
            replace hB6 := hB6.ext hE54
            replace hO29 := hO29.ext hE54
            refine WL_qg rfl rfl hg50 rfl (ev_not rfl) ?_
            refine WL_q rfl (ev_pick_f rfl hg50 rfl) ?_
            refine WL_q rfl (ev_move rfl) ?_
            refine WL_splitv (t := 57) rfl (fun hg55 => ?_) (fun hg55 => ?_)
            · have hg54 := not_true hg55
              refine WL_no rfl rfl hg55 rfl ?_
              refine WL_no rfl rfl hg55 rfl ?_
              refine WL_no rfl rfl hg55 rfl ?_
              refine WL_q rfl (ev_pick_t rfl hg55 rfl) ?_
              refine WL_nil ?_
              refine thenE_n ?_
              refine W_cond_t rfl ?_
              refine W_seq ?_
              refine W_region ?_
              refine WL_q rfl (ev_assign rfl) ?_
              refine WL_nil ?_
              refine thenE_n ?_
              refine W_ret ?_
              refine thenE_r ?_
              refine ret1 rfl rfl ?_
              first | (exact ⟨rfl, hE⟩) | (exact absurd (hr29.det1 hr22) (of_decide_eq_false hg34)) | (exact (bneE hg39 (hr29.det2 hr22)).elim) | (exact (tfR hg44).elim) | (exact absurd (hr29.det1 hr22) (of_decide_eq_false hg54)) | (exact (bneE hg60 (hr29.det2 hr22)).elim) | (exact absurd (hr76.det1 hr22) (of_decide_eq_false hg81)) | (exact (bneE hg86 (hr76.det2 hr22)).elim) | (exfalso; omega)
            · have hg54 := not_false hg55
              refine WL_qg rfl rfl hg55 rfl (ev_move rfl) ?_
              refine WL_qg rfl rfl hg55 rfl (ev_move rfl) ?_
              refine WL_qg rfl rfl hg55 rfl (ev_neq_b Try.underlying4 rfl rfl) ?_
              refine WL_q rfl (ev_pick_f rfl hg55 rfl) ?_
              refine WL_nil ?_
              refine thenE_n ?_
              refine W_cond rfl (fun hg60 => ?_) (fun hg60 => ?_)
              · refine W_seq ?_
                refine W_region ?_
                refine WL_q rfl (ev_assign rfl) ?_
                refine WL_nil ?_
                refine thenE_n ?_
                refine W_ret ?_
                refine thenE_r ?_
                refine ret1 rfl rfl ?_
                first | (exact ⟨rfl, hE⟩) | (exact absurd (hr29.det1 hr22) (of_decide_eq_false hg34)) | (exact (bneE hg39 (hr29.det2 hr22)).elim) | (exact (tfR hg44).elim) | (exact absurd (hr29.det1 hr22) (of_decide_eq_false hg54)) | (exact (bneE hg60 (hr29.det2 hr22)).elim) | (exact absurd (hr76.det1 hr22) (of_decide_eq_false hg81)) | (exact (bneE hg86 (hr76.det2 hr22)).elim) | (exfalso; omega)
              · refine W_skip ?_
                refine thenE_n ?_
                refine W_seq ?_
                refine W_region ?_
                refine WL_q rfl (ev_assign rfl) ?_
                refine WL_nil ?_
                refine thenE_n ?_
                refine W_seq ?_
                refine W_region ?_
                refine WL_q rfl (ev_move rfl) ?_
                refine WL_q rfl (ev_move rfl) ?_
                refine WL_m rfl (ev_call rfl (markIntS_own hO29 (by omega) (by omega))) ?_
                rintro _ w64 ⟨rfl, hO64, hK64⟩
                have hz64 := hK64.size
                replace hE := hE.app hK64 (fun q hq => by have := (hO29.block q hq).1; omega)
                replace hM := hM.app hK64 (hO29) (by omega)
                replace hB1 := hB1.app hK64 (hO29) (by omega)
                replace hM21 := hM21.app hK64 (hO29) (by omega)
                replace hx22 := hx22.app hK64 (hO29) (by omega)
                replace hB6 := hB6.app hK64 (hO29) (by omega)
                replace hO29 := hO64
                refine WL_q rfl (ev_assign rfl) ?_
                refine WL_nil ?_
                refine thenE_n ?_
                refine W_seq ?_
                refine W_region ?_
                refine WL_q rfl (ev_assign rfl) ?_
                refine WL_nil ?_
                refine thenE_n ?_
                refine W_seq ?_
                refine W_region ?_
                refine WL_q rfl (ev_move rfl) ?_
                refine WL_q rfl (ev_move rfl) ?_
                refine WL_m rfl (ev_call rfl (heldIntS_spec _ _ (nums 1 y29.length) _ _ (Ints.of_own (nums_len _ _) hO29) rfl (by omega) (by omega))) ?_
                rintro _ w67 ⟨rfl, hE67⟩
                have hz67 := hE67.size
                replace hE := hE.trans hE67
                replace hM := hM.ext hE67
                replace hB1 := hB1.ext hE67
                replace hM21 := hM21.ext hE67
                replace hx22 := hx22.ext hE67
                replace hB6 := hB6.ext hE67
                replace hO29 := hO29.ext hE67
                refine WL_q rfl (ev_assign rfl) ?_
                refine WL_nil ?_
                refine thenE_n ?_
                refine W_seq ?_
                refine W_seq ?_
                refine W_region ?_
                refine WL_q rfl (ev_move rfl) ?_
                refine WL_q rfl (ev_lss rfl rfl) ?_
                refine WL_nil ?_
                refine thenE_n ?_
                refine W_cond rfl (fun hg69 => ?_) (fun hg69 => ?_)
                · have hp69 := of_decide_eq_true hg69
                  refine W_seq ?_
                  refine W_region ?_
                  refine WL_q rfl (ev_assign rfl) ?_
                  refine WL_nil ?_
                  refine thenE_n ?_
                  refine W_ret ?_
                  refine thenE_r ?_
                  refine ret1 rfl rfl ?_
                  first | (exact ⟨rfl, hE⟩) | (exact absurd (hr29.det1 hr22) (of_decide_eq_false hg34)) | (exact (bneE hg39 (hr29.det2 hr22)).elim) | (exact (tfR hg44).elim) | (exact absurd (hr29.det1 hr22) (of_decide_eq_false hg54)) | (exact (bneE hg60 (hr29.det2 hr22)).elim) | (exact absurd (hr76.det1 hr22) (of_decide_eq_false hg81)) | (exact (bneE hg86 (hr76.det2 hr22)).elim) | (exfalso; omega)
                · have hp69 := of_decide_eq_false hg69
                  refine W_skip ?_
                  refine thenE_n ?_
                  refine W_seq ?_
                  refine W_seq ?_
                  refine W_region ?_
                  refine WL_q rfl (ev_move rfl) ?_
                  refine WL_q rfl (ev_move rfl) ?_
                  refine WL_q rfl (ev_neq rfl rfl) ?_
                  refine WL_nil ?_
                  refine thenE_n ?_
                  refine W_cond rfl (fun hg72 => ?_) (fun hg72 => ?_)
                  · have hp72 := of_decide_eq_true hg72
                    refine W_seq ?_
                    refine W_region ?_
                    refine WL_q rfl (ev_assign rfl) ?_
                    refine WL_nil ?_
                    refine thenE_n ?_
                    refine W_ret ?_
                    refine thenE_r ?_
                    refine ret1 rfl rfl ?_
                    first | (exact ⟨rfl, hE⟩) | (exact absurd (hr29.det1 hr22) (of_decide_eq_false hg34)) | (exact (bneE hg39 (hr29.det2 hr22)).elim) | (exact (tfR hg44).elim) | (exact absurd (hr29.det1 hr22) (of_decide_eq_false hg54)) | (exact (bneE hg60 (hr29.det2 hr22)).elim) | (exact absurd (hr76.det1 hr22) (of_decide_eq_false hg81)) | (exact (bneE hg86 (hr76.det2 hr22)).elim) | (exfalso; omega)
                  · have hp72 := of_decide_eq_false hg72
                    refine W_skip ?_
                    refine thenE_n ?_
                    refine W_seq ?_
                    refine W_region ?_
                    refine WL_q rfl (ev_loads st35 sz35 rfl (cellsB hB1) rfl) ?_
                    refine WL_m rfl (ev_call rfl (toMachine_spec h m _ hM (by omega) (by omega))) ?_
                    rintro _ w75 ⟨h75, rfl, hF75, hE75⟩
                    have hz75 := hE75.size
                    replace hE := hE.trans hE75
                    replace hM := hM.ext hE75
                    replace hB1 := hB1.ext hE75
                    replace hM21 := hM21.ext hE75
                    replace hx22 := hx22.ext hE75
                    replace hB6 := hB6.ext hE75
                    replace hO29 := hO29.ext hE75
                    have hM75 := hF75.is
                    refine WL_m rfl (ev_call rfl (Reach_spec h75 m _ hM75 (by omega) (by omega))) ?_
                    rintro _ w76 ⟨a76, c76, y76, q76, rfl, hr76, hl76, hO76, hE76⟩
                    have hz76 := hE76.size
                    replace hE := hE.trans hE76
                    replace hM := hM.ext hE76
                    replace hB1 := hB1.ext hE76
                    replace hM21 := hM21.ext hE76
                    replace hx22 := hx22.ext hE76
                    replace hB6 := hB6.ext hE76
                    replace hO29 := hO29.ext hE76
                    replace hM75 := hM75.ext hE76
                    refine WL_q rfl (ev_move rfl) ?_
                    refine WL_q rfl (ev_extract rfl rfl) ?_
                    refine WL_q rfl (ev_extract rfl rfl) ?_
                    refine WL_q rfl (ev_assign rfl) ?_
                    refine WL_q rfl (ev_assign rfl) ?_
                    refine WL_nil ?_
                    refine thenE_n ?_
                    refine W_seq ?_
                    refine W_seq ?_
                    refine W_region ?_
                    refine WL_q rfl (ev_move rfl) ?_
                    refine WL_q rfl (ev_move rfl) ?_
                    refine WL_m rfl (ev_call rfl (eqIntS_spec _ _ _ _ y76 y22 _ (Ints.of_own rfl hO76) hx22 (by omega))) ?_
                    rintro _ w81 ⟨rfl, hE81⟩
                    have hz81 := hE81.size
                    replace hE := hE.trans hE81
                    replace hM := hM.ext hE81
                    replace hB1 := hB1.ext hE81
                    replace hM21 := hM21.ext hE81
                    replace hx22 := hx22.ext hE81
                    replace hB6 := hB6.ext hE81
                    replace hO29 := hO29.ext hE81
                    replace hM75 := hM75.ext hE81
                    replace hO76 := hO76.ext hE81
                    refine WL_q rfl (ev_not rfl) ?_
                    refine WL_q rfl (ev_move rfl) ?_
                    refine WL_splitv (t := 83) rfl (fun hg82 => ?_) (fun hg82 => ?_)
                    · have hg81 := not_true hg82
                      refine WL_no rfl rfl hg82 rfl ?_
                      refine WL_no rfl rfl hg82 rfl ?_
                      refine WL_no rfl rfl hg82 rfl ?_
                      refine WL_q rfl (ev_pick_t rfl hg82 rfl) ?_
                      refine WL_nil ?_
                      refine thenE_n ?_
                      refine W_cond_t rfl ?_
                      refine W_seq ?_
                      refine W_region ?_
                      refine WL_q rfl (ev_assign rfl) ?_
                      refine WL_nil ?_
                      refine thenE_n ?_
                      refine W_ret ?_
                      refine thenE_r ?_
                      refine ret1 rfl rfl ?_
                      first | (exact ⟨rfl, hE⟩) | (exact absurd (hr29.det1 hr22) (of_decide_eq_false hg34)) | (exact (bneE hg39 (hr29.det2 hr22)).elim) | (exact (tfR hg44).elim) | (exact absurd (hr29.det1 hr22) (of_decide_eq_false hg54)) | (exact (bneE hg60 (hr29.det2 hr22)).elim) | (exact absurd (hr76.det1 hr22) (of_decide_eq_false hg81)) | (exact (bneE hg86 (hr76.det2 hr22)).elim) | (exfalso; omega)
                    · have hg81 := not_false hg82
                      refine WL_qg rfl rfl hg82 rfl (ev_move rfl) ?_
                      refine WL_qg rfl rfl hg82 rfl (ev_move rfl) ?_
                      refine WL_qg rfl rfl hg82 rfl (ev_neq_b Try.underlying4 rfl rfl) ?_
                      refine WL_q rfl (ev_pick_f rfl hg82 rfl) ?_
                      refine WL_nil ?_
                      refine thenE_n ?_
                      refine W_cond rfl (fun hg86 => ?_) (fun hg86 => ?_)
                      · refine W_seq ?_
                        refine W_region ?_
                        refine WL_q rfl (ev_assign rfl) ?_
                        refine WL_nil ?_
                        refine thenE_n ?_
                        refine W_ret ?_
                        refine thenE_r ?_
                        refine ret1 rfl rfl ?_
                        first | (exact ⟨rfl, hE⟩) | (exact absurd (hr29.det1 hr22) (of_decide_eq_false hg34)) | (exact (bneE hg39 (hr29.det2 hr22)).elim) | (exact (tfR hg44).elim) | (exact absurd (hr29.det1 hr22) (of_decide_eq_false hg54)) | (exact (bneE hg60 (hr29.det2 hr22)).elim) | (exact absurd (hr76.det1 hr22) (of_decide_eq_false hg81)) | (exact (bneE hg86 (hr76.det2 hr22)).elim) | (exfalso; omega)
                      · refine W_skip ?_
                        refine thenE_n ?_
                        refine W_seq ?_
                        refine W_region ?_
                        refine WL_q rfl (ev_assign rfl) ?_
                        refine WL_nil ?_
                        refine thenE_n ?_
                        refine W_seq ?_
                        refine W_region ?_
                        refine WL_q rfl (ev_move rfl) ?_
                        refine WL_q rfl (ev_move rfl) ?_
                        refine WL_m rfl (ev_call rfl (heldIntS_spec _ _ (nums 1 y29.length) _ _ (Ints.of_own (nums_len _ _) hO29) rfl (by omega) (by omega))) ?_
                        rintro _ w90 ⟨rfl, hE90⟩
                        have hz90 := hE90.size
                        replace hE := hE.trans hE90
                        replace hM := hM.ext hE90
                        replace hB1 := hB1.ext hE90
                        replace hM21 := hM21.ext hE90
                        replace hx22 := hx22.ext hE90
                        replace hB6 := hB6.ext hE90
                        replace hO29 := hO29.ext hE90
                        replace hM75 := hM75.ext hE90
                        replace hO76 := hO76.ext hE90
                        refine WL_q rfl (ev_assign rfl) ?_
                        refine WL_nil ?_
                        refine thenE_n ?_
                        refine W_seq ?_
                        refine W_seq ?_
                        refine W_region ?_
                        refine WL_q rfl (ev_move rfl) ?_
                        refine WL_q rfl (ev_lss rfl rfl) ?_
                        refine WL_nil ?_
                        refine thenE_n ?_
                        refine W_cond rfl (fun hg92 => ?_) (fun hg92 => ?_)
                        · have hp92 := of_decide_eq_true hg92
                          refine W_seq ?_
                          refine W_region ?_
                          refine WL_q rfl (ev_assign rfl) ?_
                          refine WL_nil ?_
                          refine thenE_n ?_
                          refine W_ret ?_
                          refine thenE_r ?_
                          refine ret1 rfl rfl ?_
                          first | (exact ⟨rfl, hE⟩) | (exact absurd (hr29.det1 hr22) (of_decide_eq_false hg34)) | (exact (bneE hg39 (hr29.det2 hr22)).elim) | (exact (tfR hg44).elim) | (exact absurd (hr29.det1 hr22) (of_decide_eq_false hg54)) | (exact (bneE hg60 (hr29.det2 hr22)).elim) | (exact absurd (hr76.det1 hr22) (of_decide_eq_false hg81)) | (exact (bneE hg86 (hr76.det2 hr22)).elim) | (exfalso; omega)
                        · have hp92 := of_decide_eq_false hg92
                          refine W_skip ?_
                          refine thenE_n ?_
                          refine W_seq ?_
                          refine W_seq ?_
                          refine W_region ?_
                          refine WL_q rfl (ev_move rfl) ?_
                          refine WL_q rfl (ev_move rfl) ?_
                          refine WL_q rfl (ev_neq rfl rfl) ?_
                          refine WL_nil ?_
                          refine thenE_n ?_
                          refine W_cond rfl (fun hg95 => ?_) (fun hg95 => ?_)
                          · have hp95 := of_decide_eq_true hg95
                            refine W_seq ?_
                            refine W_region ?_
                            refine WL_q rfl (ev_assign rfl) ?_
                            refine WL_nil ?_
                            refine thenE_n ?_
                            refine W_ret ?_
                            refine thenE_r ?_
                            refine ret1 rfl rfl ?_
                            first | (exact ⟨rfl, hE⟩) | (exact absurd (hr29.det1 hr22) (of_decide_eq_false hg34)) | (exact (bneE hg39 (hr29.det2 hr22)).elim) | (exact (tfR hg44).elim) | (exact absurd (hr29.det1 hr22) (of_decide_eq_false hg54)) | (exact (bneE hg60 (hr29.det2 hr22)).elim) | (exact absurd (hr76.det1 hr22) (of_decide_eq_false hg81)) | (exact (bneE hg86 (hr76.det2 hr22)).elim) | (exfalso; omega)
                          · have hp95 := of_decide_eq_false hg95
                            refine W_skip ?_
                            refine thenE_n ?_
                            refine W_seq ?_
                            refine W_region ?_
                            refine WL_q rfl (ev_assign rfl) ?_
                            refine WL_nil ?_
                            refine thenE_n ?_
                            refine W_ret ?_
                            refine ret1 rfl rfl ?_
                            first | (exact ⟨rfl, hE⟩) | (exact absurd (hr29.det1 hr22) (of_decide_eq_false hg34)) | (exact (bneE hg39 (hr29.det2 hr22)).elim) | (exact (tfR hg44).elim) | (exact absurd (hr29.det1 hr22) (of_decide_eq_false hg54)) | (exact (bneE hg60 (hr29.det2 hr22)).elim) | (exact absurd (hr76.det1 hr22) (of_decide_eq_false hg81)) | (exact (bneE hg86 (hr76.det2 hr22)).elim) | (exfalso; omega)

end Go.Proofs.Ytjhgpcbbmhdojaa
