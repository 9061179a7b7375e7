/- Contracts of slices.IndexFunc and slices.ContainsFunc, over whatever predicate. -/
import Derived.Test.YtdpdjbfjjlpfgaaGreatDoorTypes
namespace Go.Proofs.YtdpdjbfjjlpfgaaGreatDoor
open Go Go.RowKit

/-- The first place that meets p, or -1. -/
def idxF {α : Type} (p : α → Bool) (xs : List α) : Int := match xs.findIdx? p with | some i => i | none => -1
theorem idxF_at {α : Type} {p : α → Bool} {xs : List α} {i : Nat} (hi : i < xs.length) (hp : p xs[i] = true) (hn : ∀ j (_h : j < i) (h2 : j < xs.length), p xs[j] = false) : idxF p xs = i := by
  have : xs.findIdx? p = some i := List.findIdx?_eq_some_iff_getElem.2 ⟨hi, hp, fun j hj => by rw [hn j hj (by omega)]; simp⟩
  simp [idxF, this]
theorem idxF_none {α : Type} {p : α → Bool} {xs : List α} (hn : ∀ j (h2 : j < xs.length), p xs[j] = false) : idxF p xs = -1 := by
  have : xs.findIdx? p = none := List.findIdx?_eq_none_iff.2 fun x hx => by
    obtain ⟨i, hi, rfl⟩ := List.mem_iff_getElem.1 hx
    exact hn i hi
  simp [idxF, this]
theorem idxF_any {α : Type} {p : α → Bool} {xs : List α} : decide (0 ≤ idxF p xs) = xs.any p := by
  unfold idxF
  cases h : xs.findIdx? p with
  | none =>
    have := List.findIdx?_eq_none_iff.1 h
    have e : xs.any p = false := by simpa using this
    rw [e]; rfl
  | some i =>
    obtain ⟨hi, hp, _⟩ := List.findIdx?_eq_some_iff_getElem.1 h
    have e : xs.any p = true := List.any_eq_true.2 ⟨xs[i], List.getElem_mem hi, hp⟩
    rw [e]; simp
theorem idxF_lt {α : Type} {p : α → Bool} {xs : List α} : -1 ≤ idxF p xs ∧ idxF p xs < xs.length := by
  unfold idxF
  cases h : xs.findIdx? p with
  | none => simp; omega
  | some i =>
    obtain ⟨hi, _, _⟩ := List.findIdx?_eq_some_iff_getElem.1 h
    simp; omega
theorem neg1 : (Value.int .i64 (-1)) = VI (-1) := rfl

set_option maxRecDepth 100000 in
theorem IndexFunc_int {lo hi : Nat} (a : Option Addr) (c : Nat) (xs : List (Int)) (f : FuncId) (cap : List Value) (p : Int → Bool) (w : World) (hx : Ints lo hi w a c xs) (hm : (xs.length : Int) < 9223372036854775807) (hp : ∀ i (h : i < xs.length) (w1 : World), Ext w w1 → Fn Tryz.prog f ([] ++ [VI xs[i]] ++ cap).toArray w1 (fun v w2 => v = VB (p xs[i]) ∧ Ext w1 w2)) :
    Fn Tryz.prog 74 #[.slice a xs.length c, .func (.func f) #[] cap.toArray] w (fun v w' => v = VI (idxF p xs) ∧ Ext w w') := by
  have hE := Ext.refl w
  refine Fn_of Tryz.func74 rfl rfl (by kernel_rfl) rfl ?_
  refine W_seq ?_
  refine W_region ?_
  refine WL_q rfl (ev_assign rfl) ?_
  refine WL_nil ?_
  refine thenE_n ?_
  refine W_seq ?_
  refine W_seq ?_
  refine W_region ?_
  refine WL_q rfl (ev_move rfl) ?_
  refine WL_q rfl (ev_len Tryz.underlying24 rfl) ?_
  refine WL_q rfl (ev_move rfl) ?_
  refine WL_nil ?_
  refine thenE_n ?_
  refine W_block ?_
  refine W_loopC (G := Nat) [(0, _), (1, _), (7, _)] ((Subs.c rfl (Subs.c rfl (Subs.c rfl Subs.n)))) (fun i => [(8, VI (i : Int))]) (fun i w' => Ext w w' ∧ i ≤ xs.length ∧ ∀ j (_h : j < i) (h2 : j < xs.length), p xs[j] = false) (fun i => xs.length - i) 0 ((Subs.c (lkI rfl (by omega)) Subs.n)) (⟨Ext.refl _, ⟨by omega, fun j h => by omega⟩⟩) ?_
  rintro i wL0 ⟨hRL0, hi, hJ⟩
  have hzL0 := hRL0.size
  replace hE := hE.trans hRL0
  replace hx := hx.ext hRL0
  refine W_seq ?_
  refine W_region ?_
  refine WL_q rfl (ev_lss rfl rfl) ?_
  refine WL_nil ?_
  refine thenE_n ?_
  refine W_seq ?_
  refine W_cond rfl (fun hg9 => ?_) (fun hg9 => ?_)
  · have hp9 := of_decide_eq_true hg9
    refine W_skip ?_
    refine thenE_n ?_
    refine W_seq ?_
    refine W_block ?_
    refine W_seq ?_
    refine W_region ?_
    refine WL_q rfl (ev_move rfl) ?_
    refine WL_q rfl (ev_assign rfl) ?_
    refine WL_nil ?_
    refine thenE_n ?_
    refine W_seq ?_
    refine W_region ?_
    refine WL_q rfl (ev_move rfl) ?_
    refine WL_q rfl (ev_move rfl) ?_
    refine WL_q rfl (ev_move rfl) ?_
    refine WL_q rfl (ev_indexAddr Tryz.underlying24 sz3 rfl rfl (hx.isSome (by omega)) (by omega) (by omega)) ?_
    refine WL_q rfl (ev_load one3 rfl (hx.cell (i := i) (by omega))) ?_
    refine WL_m rfl (ev_callv rfl rfl (hp i (by omega) _ hE)) ?_
    rintro _ w16 ⟨rfl, hE16⟩
    have hz16 := hE16.size
    replace hE := hE.trans hE16
    replace hRL0 := hRL0.trans hE16
    replace hx := hx.ext hE16
    refine WL_nil ?_
    refine thenE_n ?_
    refine W_cond rfl (fun hg16 => ?_) (fun hg16 => ?_)
    · refine W_seq ?_
      refine W_region ?_
      refine WL_q rfl (ev_move rfl) ?_
      refine WL_q rfl (ev_assign rfl) ?_
      refine WL_nil ?_
      refine thenE_n ?_
      refine W_ret ?_
      refine blockE_r ?_
      refine thenE_r ?_
      refine thenE_r ?_
      refine blockE_r ?_
      refine thenE_r ?_
      refine ret1 rfl rfl ?_
      first | exact ⟨vi (idxF_at (by omega) hg16 hJ).symm, hE⟩ | exact ⟨vi (idxF_none fun j h2 => hJ j (by omega) h2).symm, hE⟩
    · refine W_skip ?_
      refine blockE_n ?_
      refine thenE_n ?_
      refine W_region ?_
      refine WL_q rfl (ev_add rfl rfl (by omega)) ?_
      refine WL_q rfl (ev_move rfl) ?_
      refine WL_nil ?_
      refine thenE_n ?_
      exact ⟨i + 1, (Subs.c rfl (Subs.c rfl (Subs.c rfl Subs.n))), (Subs.c (lkI rfl (by omega)) Subs.n), ⟨hRL0, ⟨by omega, fun j h1 h2 => by
    by_cases hj : j = i
    · subst hj; exact hg16
    · exact hJ j (by omega) h2⟩⟩, by first | omega | (dsimp only; omega)⟩
  · have hp9 := of_decide_eq_false hg9
    refine W_exit ?_
    refine thenE_x ?_
    refine thenE_x ?_
    refine blockE_hit ?_
    refine thenE_n ?_
    refine W_seq ?_
    refine W_region ?_
    refine WL_q rfl (ev_assign rfl) ?_
    refine WL_nil ?_
    refine thenE_n ?_
    refine W_ret ?_
    refine ret1 rfl rfl ?_
    first | exact ⟨vi (idxF_at (by omega) hg16 hJ).symm, hE⟩ | exact ⟨vi (idxF_none fun j h2 => hJ j (by omega) h2).symm, hE⟩

set_option maxRecDepth 100000 in
theorem ContainsFunc_int {lo hi : Nat} (a : Option Addr) (c : Nat) (xs : List (Int)) (f : FuncId) (cap : List Value) (p : Int → Bool) (w : World) (hx : Ints lo hi w a c xs) (hm : (xs.length : Int) < 9223372036854775807) (hp : ∀ i (h : i < xs.length) (w1 : World), Ext w w1 → Fn Tryz.prog f ([] ++ [VI xs[i]] ++ cap).toArray w1 (fun v w2 => v = VB (p xs[i]) ∧ Ext w1 w2)) :
    Fn Tryz.prog 63 #[.slice a xs.length c, .func (.func f) #[] cap.toArray] w (fun v w' => v = VB (xs.any p) ∧ Ext w w') := by
  have hE := Ext.refl w
  refine Fn_of Tryz.func63 rfl rfl (by kernel_rfl) rfl ?_
  refine W_seq ?_
  refine W_region ?_
  refine WL_q rfl (ev_assign rfl) ?_
  refine WL_nil ?_
  refine thenE_n ?_
  refine W_seq ?_
  refine W_region ?_
  refine WL_q rfl (ev_move rfl) ?_
  refine WL_q rfl (ev_move rfl) ?_
  refine WL_m rfl (ev_call rfl (IndexFunc_int _ _ _ _ _ p _ hx (by omega) hp)) ?_
  rintro _ w7 ⟨rfl, hE7⟩
  have hz7 := hE7.size
  replace hE := hE.trans hE7
  replace hx := hx.ext hE7
  refine WL_q rfl (ev_geq rfl rfl) ?_
  refine WL_q rfl (ev_assign rfl) ?_
  refine WL_nil ?_
  refine thenE_n ?_
  refine W_ret ?_
  refine ret1 rfl rfl ?_
  exact ⟨vb idxF_any, hE⟩

end Go.Proofs.YtdpdjbfjjlpfgaaGreatDoor
