/- Reading numbers and words: what the reference's small functions compute. -/
import Derived.Test.YtdpdjbfjjlpfgaaGreatDoorPwlk
namespace Go.Proofs.YtdpdjbfjjlpfgaaGreatDoor
open Go Go.RowKit

def isDig (b : UInt8) : Prop := 48 ≤ (b.toNat : Int) ∧ (b.toNat : Int) ≤ 57
instance : DecidablePred isDig := fun b => inferInstanceAs (Decidable (_ ∧ _))
def dval (l : List UInt8) : Int := l.foldl (fun n b => 10 * n + ((b.toNat : Int) - 48)) 0
/-- A word as a number: the reader of the reference. -/
def rdS (l : List UInt8) : Int := if l.length < 1 ∨ 6 < l.length ∨ (l.getD 0 0 = 48 ∧ 1 < l.length) then -1 else if ∀ b ∈ l, isDig b then dval l else -1
theorem dval_snoc {l : List UInt8} {b : UInt8} : dval (l ++ [b]) = 10 * dval l + ((b.toNat : Int) - 48) := by simp [dval, List.foldl_append]
theorem dval_take {l : List UInt8} {i : Nat} (h : i < l.length) : dval (l.take (i + 1)) = 10 * dval (l.take i) + ((l[i].toNat : Int) - 48) := by rw [List.take_succ_eq_append_getElem h, dval_snoc]
theorem dval_bd : ∀ (n : Nat) (l : List UInt8), l.length = n → (∀ b ∈ l, isDig b) → 0 ≤ dval l ∧ dval l < 10 ^ n := by
  intro n
  induction n with
  | zero => intro l hl _; have := List.eq_nil_of_length_eq_zero hl; subst this; decide
  | succ n ih =>
    intro l hl hd
    have e : l = l.take n ++ [l[n]] := by rw [← List.take_succ_eq_append_getElem (by omega), List.take_of_length_le (by omega)]
    have h1 := ih (l.take n) (by rw [List.length_take]; omega) fun b hb => hd b (List.mem_of_mem_take hb)
    have h2 := hd _ (List.getElem_mem (show n < l.length by omega))
    unfold isDig at h2
    rw [e, dval_snoc, Int.pow_succ]
    generalize (10 : Int) ^ n = q at h1 ⊢
    omega
theorem dval_6 {l : List UInt8} (h : l.length ≤ 6) (hd : ∀ b ∈ l, isDig b) : 0 ≤ dval l ∧ dval l < 1000000 := by
  have h1 := dval_bd _ l rfl hd
  have h2 : (10 : Int) ^ l.length ≤ 10 ^ 6 := by
    generalize l.length = n at h
    match n, h with
    | 0, _ => decide
    | 1, _ => decide
    | 2, _ => decide
    | 3, _ => decide
    | 4, _ => decide
    | 5, _ => decide
    | 6, _ => decide
  exact ⟨h1.1, Int.lt_of_lt_of_le h1.2 h2⟩
theorem rdS_no {l : List UInt8} (h : l.length < 1 ∨ 6 < l.length) : rdS l = -1 := by unfold rdS; rw [if_pos (h.elim .inl fun h => .inr (.inl h))]
theorem rdS_zero {l : List UInt8} {h0 : 0 < l.length} (h : (l[0].toNat : Int) = 48) (h1 : (l.length : Int) > 1) : rdS l = -1 := by
  unfold rdS
  have e : l.getD 0 0 = 48 := by rw [getD_eq h0]; exact UInt8.toNat_inj.1 (show l[0].toNat = 48 by omega)
  rw [if_pos (.inr (.inr ⟨e, by omega⟩))]
theorem rdS_dig {l : List UInt8} {i : Nat} {hi : i < l.length} (h : (l[i].toNat : Int) < 48 ∨ (l[i].toNat : Int) > 57) : rdS l = -1 := by
  unfold rdS
  split
  · rfl
  · rw [if_neg fun k => by have := k _ (List.getElem_mem hi); unfold isDig at this; omega]
theorem rdS_yes {l : List UInt8} (h1 : 1 ≤ l.length ∧ l.length ≤ 6) (h2 : ∀ h0 : 0 < l.length, ¬ ((l[0].toNat : Int) = 48 ∧ (l.length : Int) > 1)) (h3 : ∀ b ∈ l, isDig b) : rdS l = dval l := by
  unfold rdS
  rw [if_neg ?_, if_pos h3]
  rintro (h | h | ⟨h, k⟩)
  · omega
  · omega
  · rw [getD_eq (by omega)] at h
    refine h2 (by omega) ⟨?_, by omega⟩
    rw [h]; rfl
theorem rdS_ge (l : List UInt8) : -1 ≤ rdS l ∧ rdS l < 1000000 := by
  unfold rdS
  split
  · omega
  · split
    · rename_i h1 h2
      have := dval_6 (l := l) (by omega) h2
      omega
    · omega
theorem wrap_i9 {m : Int} (h : 0 ≤ m ∧ m ≤ 1000000) : IntKind.i64.wrap m = m := by rw [IntKind.wrap_i64]; omega
theorem digs_step {l : List UInt8} {i : Nat} (h : i < l.length) (h1 : ∀ b ∈ l.take i, isDig b) (h2 : ¬ (l[i].toNat : Int) < 48) (h3 : ¬ (l[i].toNat : Int) > 57) : ∀ b ∈ l.take (i + 1), isDig b := by
  rw [List.take_succ_eq_append_getElem h]
  intro b hb
  rcases List.mem_append.1 hb with hb | hb
  · exact h1 b hb
  · rw [List.mem_singleton.1 hb]; unfold isDig; omega

set_option maxRecDepth 100000 in
theorem l1Read_spec (l : List UInt8) (w : World) :
    Fn Tryz.prog 13 #[.string (bs l)] w (fun o9 w' => o9 = VI (rdS l) ∧ Ext w w') := by
  have hbl := bs_size l
  have hE := Ext.refl w
  refine Fn_of Tryz.func13 rfl rfl (by kernel_rfl) rfl ?_
  refine W_seq ?_
  refine W_region ?_
  refine WL_q rfl (ev_assign rfl) ?_
  refine WL_nil ?_
  refine thenE_n ?_
  refine W_seq ?_
  refine W_seq ?_
  refine W_region ?_
  refine WL_q rfl (ev_move rfl) ?_
  refine WL_q rfl (ev_len_s Tryz.underlying9 rfl) ?_
  refine WL_m rfl (ev_call rfl (l1In_spec _ _ _ _)) ?_
  rintro _ _ ⟨rfl, rfl⟩
  refine WL_q rfl (ev_not rfl) ?_
  refine WL_q rfl (ev_move rfl) ?_
  refine WL_splitv (t := 9) rfl (fun hg8 => ?_) (fun hg8 => ?_)
  · have hg7 := not_true hg8
    have hp7 := inR_false.1 hg7
    refine WL_no rfl rfl hg8 rfl ?_
    refine WL_no rfl rfl hg8 rfl ?_
    refine WL_no rfl rfl hg8 rfl ?_
    refine WL_no rfl rfl hg8 rfl ?_
    refine WL_nou rfl rfl rfl ?_
    refine WL_nou rfl rfl rfl ?_
    refine WL_nou rfl rfl rfl ?_
    refine WL_no rfl rfl hg8 rfl ?_
    refine WL_q rfl (ev_pick_t rfl hg8 rfl) ?_
    refine WL_nil ?_
    refine thenE_n ?_
    refine W_cond_t rfl ?_
    refine W_seq ?_
    refine W_region ?_
    refine WL_q rfl (ev_assign rfl) ?_
    refine WL_nil ?_
    refine thenE_n ?_
    refine W_ret ?_
    refine thenE_r ?_
    refine ret1 rfl rfl ?_
    exact ⟨vi (rdS_no (by omega)).symm, hE⟩
  · have hg7 := not_false hg8
    have hp7 := inR_true.1 hg7
    refine WL_qg rfl rfl hg8 rfl (ev_move rfl) ?_
    refine WL_qg rfl rfl hg8 rfl (ev_indexS Tryz.underlying9 rfl rfl (by omega) (by omega)) ?_
    refine WL_qg rfl rfl hg8 rfl (ev_eql_b8 rfl rfl) ?_
    refine WL_qg rfl rfl hg8 rfl (ev_move rfl) ?_
    refine WL_splitv (t := 13) rfl (fun hg12 => ?_) (fun hg12 => ?_)
    · have hp12 := of_decide_eq_true hg12
      refine WL_qg rfl rfl hg12 rfl (ev_move rfl) ?_
      refine WL_qg rfl rfl hg12 rfl (ev_len_s Tryz.underlying9 rfl) ?_
      refine WL_qg rfl rfl hg12 rfl (ev_gtr rfl rfl) ?_
      refine WL_qg rfl rfl hg8 rfl (ev_pick_t rfl hg12 rfl) ?_
      refine WL_q rfl (ev_pick_f rfl hg8 rfl) ?_
      refine WL_nil ?_
      refine thenE_n ?_
      refine W_cond rfl (fun hg16 => ?_) (fun hg16 => ?_)
      · have hp16 := of_decide_eq_true hg16
        refine W_seq ?_
        refine W_region ?_
        refine WL_q rfl (ev_assign rfl) ?_
        refine WL_nil ?_
        refine thenE_n ?_
        refine W_ret ?_
        refine thenE_r ?_
        refine ret1 rfl rfl ?_
        exact ⟨vi (rdS_zero (h0 := by omega) hp12 hp16).symm, hE⟩
      · have hp16 := of_decide_eq_false hg16
        refine W_skip ?_
        refine thenE_n ?_
        refine W_seq ?_
        refine W_region ?_
        refine WL_q rfl (ev_assign rfl) ?_
        refine WL_nil ?_
        refine thenE_n ?_
        refine W_seq ?_
        refine W_seq ?_
        refine W_region ?_
        refine WL_q rfl (ev_assign rfl) ?_
        refine WL_nil ?_
        refine thenE_n ?_
        refine W_block ?_
        refine W_loopC (G := Nat) [(0, _)] ((Subs.c rfl Subs.n)) (fun i => [(3, VI (dval (l.take i))), (4, VI (i : Int))]) (fun i w' => Ext w w' ∧ i ≤ l.length ∧ ∀ b ∈ (l.take i), isDig b) (fun i => l.length - i) 0 ((Subs.c rfl (Subs.c (lkI rfl (by omega)) Subs.n))) (⟨Ext.refl _, ⟨Nat.zero_le _, fun b hb => by cases hb⟩⟩) ?_
        rintro i wL0 ⟨hRL0, hi', hd⟩
        have hzL0 := hRL0.size
        replace hE := hE.trans hRL0
        have hbd := dval_6 (l := l.take i) (by rw [List.length_take]; omega) hd
        refine W_seq ?_
        refine W_seq ?_
        refine W_region ?_
        refine WL_q rfl (ev_move rfl) ?_
        refine WL_q rfl (ev_move rfl) ?_
        refine WL_q rfl (ev_len_s Tryz.underlying9 rfl) ?_
        refine WL_q rfl (ev_lss rfl rfl) ?_
        refine WL_nil ?_
        refine thenE_n ?_
        refine W_cond rfl (fun hg22 => ?_) (fun hg22 => ?_)
        · have hp22 := of_decide_eq_true hg22
          refine W_skip ?_
          refine thenE_n ?_
          refine W_seq ?_
          refine W_block ?_
          refine W_seq ?_
          refine W_seq ?_
          refine W_region ?_
          refine WL_q rfl (ev_move rfl) ?_
          refine WL_q rfl (ev_move rfl) ?_
          have hlt : i < l.length := by omega
          refine WL_q rfl (ev_indexS Tryz.underlying9 rfl rfl (by omega) (by omega)) ?_
          refine WL_q rfl (ev_lss_b8 rfl rfl) ?_
          refine WL_q rfl (ev_move rfl) ?_
          refine WL_splitv (t := 29) rfl (fun hg28 => ?_) (fun hg28 => ?_)
          · have hp28 := of_decide_eq_true hg28
            refine WL_no rfl rfl hg28 rfl ?_
            refine WL_no rfl rfl hg28 rfl ?_
            refine WL_no rfl rfl hg28 rfl ?_
            refine WL_no rfl rfl hg28 rfl ?_
            refine WL_q rfl (ev_pick_t rfl hg28 rfl) ?_
            refine WL_nil ?_
            refine thenE_n ?_
            refine W_cond_t rfl ?_
            refine W_seq ?_
            refine W_region ?_
            refine WL_q rfl (ev_assign rfl) ?_
            refine WL_nil ?_
            refine thenE_n ?_
            refine W_ret ?_
            refine thenE_r ?_
            refine blockE_r ?_
            refine thenE_r ?_
            refine thenE_r ?_
            refine blockE_r ?_
            refine thenE_r ?_
            refine ret1 rfl rfl ?_
            exact ⟨vi (rdS_dig (.inl hp28)).symm, hE⟩
          · have hp28 := of_decide_eq_false hg28
            refine WL_qg rfl rfl hg28 rfl (ev_move rfl) ?_
            refine WL_qg rfl rfl hg28 rfl (ev_move rfl) ?_
            refine WL_qg rfl rfl hg28 rfl (ev_indexS Tryz.underlying9 rfl rfl (by omega) (by omega)) ?_
            refine WL_qg rfl rfl hg28 rfl (ev_gtr_b8 rfl rfl) ?_
            refine WL_q rfl (ev_pick_f rfl hg28 rfl) ?_
            refine WL_nil ?_
            refine thenE_n ?_
            refine W_cond rfl (fun hg33 => ?_) (fun hg33 => ?_)
            · have hp33 := of_decide_eq_true hg33
              refine W_seq ?_
              refine W_region ?_
              refine WL_q rfl (ev_assign rfl) ?_
              refine WL_nil ?_
              refine thenE_n ?_
              refine W_ret ?_
              refine thenE_r ?_
              refine blockE_r ?_
              refine thenE_r ?_
              refine thenE_r ?_
              refine blockE_r ?_
              refine thenE_r ?_
              refine ret1 rfl rfl ?_
              exact ⟨vi (rdS_dig (.inr hp33)).symm, hE⟩
            · have hp33 := of_decide_eq_false hg33
              refine W_skip ?_
              refine thenE_n ?_
              refine W_region ?_
              refine WL_q rfl (ev_move rfl) ?_
              refine WL_q rfl (ev_mul rfl rfl (by omega)) ?_
              refine WL_q rfl (ev_move rfl) ?_
              refine WL_q rfl (ev_move rfl) ?_
              refine WL_q rfl (ev_indexS Tryz.underlying9 rfl rfl (by omega) (by omega)) ?_
              refine WL_q rfl (ev_sub_b8 rfl rfl (by omega)) ?_
              refine WL_q rfl (ev_conv (by kernel_rfl) Tryz.underlying3 (by kernel_rfl) rfl (wrap_i9 (by omega))) ?_
              refine WL_q rfl (ev_add rfl rfl (by omega)) ?_
              refine WL_q rfl (ev_assign rfl) ?_
              refine WL_nil ?_
              refine blockE_n ?_
              refine thenE_n ?_
              refine W_region ?_
              refine WL_q rfl (ev_move rfl) ?_
              refine WL_q rfl (ev_add rfl rfl (by omega)) ?_
              refine WL_q rfl (ev_assign rfl) ?_
              refine WL_nil ?_
              refine thenE_n ?_
              exact ⟨i + 1, (Subs.c rfl Subs.n), (Subs.c (lkI rfl (dval_take hlt).symm) (Subs.c (lkI rfl (by omega)) Subs.n)), ⟨hRL0, ⟨by omega, digs_step hlt hd hp28 hp33⟩⟩, by first | omega | (dsimp only; omega)⟩
        · have hp22 := of_decide_eq_false hg22
          refine W_exit ?_
          refine thenE_x ?_
          refine thenE_x ?_
          refine blockE_hit ?_
          refine thenE_n ?_
          refine W_seq ?_
          refine W_region ?_
          refine WL_q rfl (ev_move rfl) ?_
          refine WL_q rfl (ev_assign rfl) ?_
          refine WL_nil ?_
          refine thenE_n ?_
          refine W_ret ?_
          refine ret1 rfl rfl ?_
          have hi9 : i = l.length := by omega
          rw [hi9, List.take_length] at hd
          exact ⟨vi (by rw [hi9, List.take_length]; exact (rdS_yes (l := l) (by omega) (fun _ k => hp16 k.2) hd).symm), hE⟩
    · have hp12 := of_decide_eq_false hg12
      refine WL_no rfl rfl hg12 rfl ?_
      refine WL_no rfl rfl hg12 rfl ?_
      refine WL_no rfl rfl hg12 rfl ?_
      refine WL_qg rfl rfl hg8 rfl (ev_pick_f rfl hg12 rfl) ?_
      refine WL_q rfl (ev_pick_f rfl hg8 rfl) ?_
      refine WL_nil ?_
      refine thenE_n ?_
      refine W_cond_f rfl ?_
      refine W_skip ?_
      refine thenE_n ?_
      refine W_seq ?_
      refine W_region ?_
      refine WL_q rfl (ev_assign rfl) ?_
      refine WL_nil ?_
      refine thenE_n ?_
      refine W_seq ?_
      refine W_seq ?_
      refine W_region ?_
      refine WL_q rfl (ev_assign rfl) ?_
      refine WL_nil ?_
      refine thenE_n ?_
      refine W_block ?_
      refine W_loopC (G := Nat) [(0, _)] ((Subs.c rfl Subs.n)) (fun i => [(3, VI (dval (l.take i))), (4, VI (i : Int))]) (fun i w' => Ext w w' ∧ i ≤ l.length ∧ ∀ b ∈ (l.take i), isDig b) (fun i => l.length - i) 0 ((Subs.c rfl (Subs.c (lkI rfl (by omega)) Subs.n))) (⟨Ext.refl _, ⟨Nat.zero_le _, fun b hb => by cases hb⟩⟩) ?_
      rintro i wL0 ⟨hRL0, hi', hd⟩
      have hzL0 := hRL0.size
      replace hE := hE.trans hRL0
      have hbd := dval_6 (l := l.take i) (by rw [List.length_take]; omega) hd
      refine W_seq ?_
      refine W_seq ?_
      refine W_region ?_
      refine WL_q rfl (ev_move rfl) ?_
      refine WL_q rfl (ev_move rfl) ?_
      refine WL_q rfl (ev_len_s Tryz.underlying9 rfl) ?_
      refine WL_q rfl (ev_lss rfl rfl) ?_
      refine WL_nil ?_
      refine thenE_n ?_
      refine W_cond rfl (fun hg22 => ?_) (fun hg22 => ?_)
      · have hp22 := of_decide_eq_true hg22
        refine W_skip ?_
        refine thenE_n ?_
        refine W_seq ?_
        refine W_block ?_
        refine W_seq ?_
        refine W_seq ?_
        refine W_region ?_
        refine WL_q rfl (ev_move rfl) ?_
        refine WL_q rfl (ev_move rfl) ?_
        have hlt : i < l.length := by omega
        refine WL_q rfl (ev_indexS Tryz.underlying9 rfl rfl (by omega) (by omega)) ?_
        refine WL_q rfl (ev_lss_b8 rfl rfl) ?_
        refine WL_q rfl (ev_move rfl) ?_
        refine WL_splitv (t := 29) rfl (fun hg28 => ?_) (fun hg28 => ?_)
        · have hp28 := of_decide_eq_true hg28
          refine WL_no rfl rfl hg28 rfl ?_
          refine WL_no rfl rfl hg28 rfl ?_
          refine WL_no rfl rfl hg28 rfl ?_
          refine WL_no rfl rfl hg28 rfl ?_
          refine WL_q rfl (ev_pick_t rfl hg28 rfl) ?_
          refine WL_nil ?_
          refine thenE_n ?_
          refine W_cond_t rfl ?_
          refine W_seq ?_
          refine W_region ?_
          refine WL_q rfl (ev_assign rfl) ?_
          refine WL_nil ?_
          refine thenE_n ?_
          refine W_ret ?_
          refine thenE_r ?_
          refine blockE_r ?_
          refine thenE_r ?_
          refine thenE_r ?_
          refine blockE_r ?_
          refine thenE_r ?_
          refine ret1 rfl rfl ?_
          exact ⟨vi (rdS_dig (.inl hp28)).symm, hE⟩
        · have hp28 := of_decide_eq_false hg28
          refine WL_qg rfl rfl hg28 rfl (ev_move rfl) ?_
          refine WL_qg rfl rfl hg28 rfl (ev_move rfl) ?_
          refine WL_qg rfl rfl hg28 rfl (ev_indexS Tryz.underlying9 rfl rfl (by omega) (by omega)) ?_
          refine WL_qg rfl rfl hg28 rfl (ev_gtr_b8 rfl rfl) ?_
          refine WL_q rfl (ev_pick_f rfl hg28 rfl) ?_
          refine WL_nil ?_
          refine thenE_n ?_
          refine W_cond rfl (fun hg33 => ?_) (fun hg33 => ?_)
          · have hp33 := of_decide_eq_true hg33
            refine W_seq ?_
            refine W_region ?_
            refine WL_q rfl (ev_assign rfl) ?_
            refine WL_nil ?_
            refine thenE_n ?_
            refine W_ret ?_
            refine thenE_r ?_
            refine blockE_r ?_
            refine thenE_r ?_
            refine thenE_r ?_
            refine blockE_r ?_
            refine thenE_r ?_
            refine ret1 rfl rfl ?_
            exact ⟨vi (rdS_dig (.inr hp33)).symm, hE⟩
          · have hp33 := of_decide_eq_false hg33
            refine W_skip ?_
            refine thenE_n ?_
            refine W_region ?_
            refine WL_q rfl (ev_move rfl) ?_
            refine WL_q rfl (ev_mul rfl rfl (by omega)) ?_
            refine WL_q rfl (ev_move rfl) ?_
            refine WL_q rfl (ev_move rfl) ?_
            refine WL_q rfl (ev_indexS Tryz.underlying9 rfl rfl (by omega) (by omega)) ?_
            refine WL_q rfl (ev_sub_b8 rfl rfl (by omega)) ?_
            refine WL_q rfl (ev_conv (by kernel_rfl) Tryz.underlying3 (by kernel_rfl) rfl (wrap_i9 (by omega))) ?_
            refine WL_q rfl (ev_add rfl rfl (by omega)) ?_
            refine WL_q rfl (ev_assign rfl) ?_
            refine WL_nil ?_
            refine blockE_n ?_
            refine thenE_n ?_
            refine W_region ?_
            refine WL_q rfl (ev_move rfl) ?_
            refine WL_q rfl (ev_add rfl rfl (by omega)) ?_
            refine WL_q rfl (ev_assign rfl) ?_
            refine WL_nil ?_
            refine thenE_n ?_
            exact ⟨i + 1, (Subs.c rfl Subs.n), (Subs.c (lkI rfl (dval_take hlt).symm) (Subs.c (lkI rfl (by omega)) Subs.n)), ⟨hRL0, ⟨by omega, digs_step hlt hd hp28 hp33⟩⟩, by first | omega | (dsimp only; omega)⟩
      · have hp22 := of_decide_eq_false hg22
        refine W_exit ?_
        refine thenE_x ?_
        refine thenE_x ?_
        refine blockE_hit ?_
        refine thenE_n ?_
        refine W_seq ?_
        refine W_region ?_
        refine WL_q rfl (ev_move rfl) ?_
        refine WL_q rfl (ev_assign rfl) ?_
        refine WL_nil ?_
        refine thenE_n ?_
        refine W_ret ?_
        refine ret1 rfl rfl ?_
        have hi9 : i = l.length := by omega
        rw [hi9, List.take_length] at hd
        exact ⟨vi (by rw [hi9, List.take_length]; exact (rdS_yes (l := l) (by omega) (fun _ k => hp12 k.1) hd).symm), hE⟩

theorem rdS_star : rdS [42] = -1 := by decide
/-- A word as a number or a star: the reader of the reference. -/
def gS (l : List UInt8) : Option Int := if rdS l < 0 ∧ l ≠ [42] then none else some (rdS l)
theorem gS_none {l : List UInt8} (h : rdS l < 0) (k : l ≠ [42]) : gS l = none := by unfold gS; rw [if_pos ⟨h, k⟩]
theorem gS_some {l : List UInt8} (h : ¬ (rdS l < 0 ∧ l ≠ [42])) : gS l = some (rdS l) := by unfold gS; rw [if_neg h]

set_option maxRecDepth 100000 in
theorem maNumbers_spec {B lo hi : Nat} (a0 : Option Addr) (c0 : Nat) (ws : List (List UInt8)) (w : World) (hW : WS lo hi w a0 c0 ws) (hhi : hi ≤ w.heap.size) (hn : ws.length ≤ 1048577) :
    Fn Tryz.prog 10 #[.slice a0 ws.length c0] w (fun o9 w' => ∃ a c q xs, o9 = .tuple #[.slice a xs.length c, VB q] ∧ (q = true ∧ okNums gS ws ∧ xs = numsOf gS ws ∨ q = false ∧ ¬ okNums gS ws ∧ xs = []) ∧ OwnH w.heap.size w'.heap.size 0 0 w' 3 1 a xs.length c (xs.map VI) ∧ Ext w w') := by
  have hE := Ext.refl w
  refine Fn_of Tryz.func10 rfl rfl (by kernel_rfl) rfl ?_
  refine W_seq ?_
  refine W_region ?_
  refine WL_q rfl (ev_assign rfl) ?_
  refine WL_q rfl (ev_assign rfl) ?_
  refine WL_nil ?_
  refine thenE_n ?_
  refine W_seq ?_
  refine W_region ?_
  refine WL_q rfl (ev_assign rfl) ?_
  refine WL_nil ?_
  refine thenE_n ?_
  refine W_seq ?_
  refine W_seq ?_
  refine W_region ?_
  refine WL_q rfl (ev_move rfl) ?_
  refine WL_q rfl (ev_len Tryz.underlying32 rfl) ?_
  refine WL_q rfl (ev_move rfl) ?_
  refine WL_nil ?_
  refine thenE_n ?_
  refine W_block ?_
  refine W_loopC (G := Nat × Option Addr × Nat) [(8, _), (9, _)] ((Subs.c rfl (Subs.c rfl Subs.n))) (fun ⟨i, a, c⟩ => [(4, .slice a i c), (10, VI (i : Int))]) (fun ⟨i, a, c⟩ w' => Lo (w.heap.size) w w' ∧ i ≤ ws.length ∧ okNums gS (ws.take i) ∧ OwnH w.heap.size w'.heap.size 0 0 w' 3 1 a i c ((numsOf gS (ws.take i)).map VI)) (fun g => ws.length - g.1) (0, none, 0) ((Subs.c rfl (Subs.c (lkI rfl (by omega)) Subs.n))) (⟨Lo.refl (by omega), ⟨Nat.zero_le _, okN_nil, OwnH.nil⟩⟩) ?_
  rintro ⟨i, a, c⟩ wL0 ⟨hRL0, hi', hk, hO⟩
  have hzL0 := hRL0.size
  replace hW := hW.lo hRL0 (by omega)
  replace hE := hE.lo hRL0 (by omega)
  refine W_seq ?_
  refine W_region ?_
  refine WL_q rfl (ev_lss rfl rfl) ?_
  refine WL_nil ?_
  refine thenE_n ?_
  refine W_seq ?_
  refine W_cond rfl (fun hg11 => ?_) (fun hg11 => ?_)
  · have hp11 := of_decide_eq_true hg11
    refine W_skip ?_
    refine thenE_n ?_
    refine W_seq ?_
    refine W_block ?_
    refine W_seq ?_
    refine W_region ?_
    have hlt : i < ws.length := by omega
    refine WL_q rfl (ev_indexAddr Tryz.underlying32 sz9 rfl rfl (hW.isSome (by omega)) (by omega) (by omega)) ?_
    refine WL_q rfl (ev_load one9 rfl (hW.cell hlt)) ?_
    refine WL_q rfl (ev_assign rfl) ?_
    refine WL_nil ?_
    refine thenE_n ?_
    refine W_seq ?_
    refine W_region ?_
    refine WL_q rfl (ev_move rfl) ?_
    refine WL_m rfl (ev_call rfl (l1Read_spec ws[i] _)) ?_
    rintro _ w15 ⟨rfl, hE15⟩
    have hz15 := hE15.size
    replace hE := hE.trans hE15
    replace hRL0 := hRL0.trans hE15
    replace hW := hW.ext hE15
    replace hO := hO.ext hE15
    refine WL_q rfl (ev_assign rfl) ?_
    refine WL_nil ?_
    refine thenE_n ?_
    refine W_seq ?_
    refine W_seq ?_
    refine W_region ?_
    refine WL_q rfl (ev_move rfl) ?_
    refine WL_q rfl (ev_lss rfl rfl) ?_
    refine WL_q rfl (ev_move rfl) ?_
    refine WL_splitv (t := 18) rfl (fun hg17 => ?_) (fun hg17 => ?_)
    · have hp17 := of_decide_eq_true hg17
      refine WL_qg rfl rfl hg17 rfl (ev_move rfl) ?_
      refine WL_qg rfl rfl hg17 rfl (ev_neq_str (b := [42]) rfl rfl) ?_
      refine WL_q rfl (ev_pick_t rfl hg17 rfl) ?_
      refine WL_nil ?_
      refine thenE_n ?_
      refine W_cond rfl (fun hg20 => ?_) (fun hg20 => ?_)
      · have hp20 := of_decide_eq_true hg20
        refine W_seq ?_
        refine W_region ?_
        refine WL_q rfl (ev_assign rfl) ?_
        refine WL_q rfl (ev_assign rfl) ?_
        refine WL_nil ?_
        refine thenE_n ?_
        refine W_ret ?_
        refine thenE_r ?_
        refine blockE_r ?_
        refine thenE_r ?_
        refine thenE_r ?_
        refine blockE_r ?_
        refine thenE_r ?_
        refine ret2 rfl rfl rfl ?_
        exact ⟨none, 0, false, [], rfl, .inr ⟨rfl, okN_no hlt (gS_none hp17 hp20), rfl⟩, OwnH.nil, hE⟩
      · have hp20 := of_decide_eq_false hg20
        refine W_skip ?_
        refine thenE_n ?_
        refine W_region ?_
        refine WL_q rfl (ev_move rfl) ?_
        refine WL_q rfl (ev_move rfl) ?_
        refine WL_m rfl (ev_lit1 Tryz.underlying24 el3 (by decide) (by decide) rfl rfl) ?_
        rintro _ w24 ⟨rfl, hN24⟩
        have hz24 := hN24.size
        replace hE := hE.trans hN24.ext
        replace hRL0 := hRL0.trans hN24.ext
        replace hW := hW.ext hN24.ext
        replace hO := hO.ext hN24.ext
        have hB24 := hN24.blk
        refine WL_m rfl (ev_appendT Tryz.underlying24 el3 rfl (by decide) rfl rfl hO (SAt.of_blk (cs := [_]) (ds := []) hB24) rfl (by simp [Value.oneCell']) (by omega) (by unfold maxLen; omega) (by omega)) ?_
        rintro _ w25 ⟨a25, c25, rfl, hO25, hK25, hQ25⟩
        have hz25 := hK25.size
        replace hE := hE.rg hK25 (by omega)
        replace hRL0 := hRL0.rg hK25 (by omega)
        replace hW := hW.rg hK25 (by omega)
        replace hB24 := hB24.rg hK25 (by omega)
        replace hO := hO25
        replace hO := ownt_snocI hO
        refine WL_q rfl (ev_assign rfl) ?_
        refine WL_nil ?_
        refine blockE_n ?_
        refine thenE_n ?_
        refine W_region ?_
        refine WL_q rfl (ev_add rfl rfl (by omega)) ?_
        refine WL_q rfl (ev_move rfl) ?_
        refine WL_nil ?_
        refine thenE_n ?_
        exact ⟨(i + 1, a25, c25), (Subs.c rfl (Subs.c rfl Subs.n)), (Subs.c rfl (Subs.c (lkI rfl (by omega)) Subs.n)), ⟨hRL0, ⟨by omega, okN_step hk hlt (gS_some fun k => k.2 (Decidable.of_not_not hp20)), by rw [numsOf_step hlt (gS_some fun k => k.2 (Decidable.of_not_not hp20))]; exact hO⟩⟩, by first | omega | (dsimp only; omega)⟩
    · have hp17 := of_decide_eq_false hg17
      refine WL_no rfl rfl hg17 rfl ?_
      refine WL_no rfl rfl hg17 rfl ?_
      refine WL_q rfl (ev_pick_f rfl hg17 rfl) ?_
      refine WL_nil ?_
      refine thenE_n ?_
      refine W_cond_f rfl ?_
      refine W_skip ?_
      refine thenE_n ?_
      refine W_region ?_
      refine WL_q rfl (ev_move rfl) ?_
      refine WL_q rfl (ev_move rfl) ?_
      refine WL_m rfl (ev_lit1 Tryz.underlying24 el3 (by decide) (by decide) rfl rfl) ?_
      rintro _ w24 ⟨rfl, hN24⟩
      have hz24 := hN24.size
      replace hE := hE.trans hN24.ext
      replace hRL0 := hRL0.trans hN24.ext
      replace hW := hW.ext hN24.ext
      replace hO := hO.ext hN24.ext
      have hB24 := hN24.blk
      refine WL_m rfl (ev_appendT Tryz.underlying24 el3 rfl (by decide) rfl rfl hO (SAt.of_blk (cs := [_]) (ds := []) hB24) rfl (by simp [Value.oneCell']) (by omega) (by unfold maxLen; omega) (by omega)) ?_
      rintro _ w25 ⟨a25, c25, rfl, hO25, hK25, hQ25⟩
      have hz25 := hK25.size
      replace hE := hE.rg hK25 (by omega)
      replace hRL0 := hRL0.rg hK25 (by omega)
      replace hW := hW.rg hK25 (by omega)
      replace hB24 := hB24.rg hK25 (by omega)
      replace hO := hO25
      replace hO := ownt_snocI hO
      refine WL_q rfl (ev_assign rfl) ?_
      refine WL_nil ?_
      refine blockE_n ?_
      refine thenE_n ?_
      refine W_region ?_
      refine WL_q rfl (ev_add rfl rfl (by omega)) ?_
      refine WL_q rfl (ev_move rfl) ?_
      refine WL_nil ?_
      refine thenE_n ?_
      exact ⟨(i + 1, a25, c25), (Subs.c rfl (Subs.c rfl Subs.n)), (Subs.c rfl (Subs.c (lkI rfl (by omega)) Subs.n)), ⟨hRL0, ⟨by omega, okN_step hk hlt (gS_some fun k => hp17 k.1), by rw [numsOf_step hlt (gS_some fun k => hp17 k.1)]; exact hO⟩⟩, by first | omega | (dsimp only; omega)⟩
  · have hp11 := of_decide_eq_false hg11
    refine W_exit ?_
    refine thenE_x ?_
    refine thenE_x ?_
    refine blockE_hit ?_
    refine thenE_n ?_
    refine W_seq ?_
    refine W_region ?_
    refine WL_q rfl (ev_move rfl) ?_
    refine WL_q rfl (ev_assign rfl) ?_
    refine WL_q rfl (ev_assign rfl) ?_
    refine WL_nil ?_
    refine thenE_n ?_
    refine W_ret ?_
    refine ret2 rfl rfl rfl ?_
    have hi9 : i = ws.length := by omega
    rw [hi9, List.take_length] at hk hO
    exact ⟨a, c, true, numsOf gS ws, by rw [numsOf_len, hi9], .inl ⟨rfl, hk, rfl⟩, by rw [numsOf_len]; exact hO.up (Nat.le_refl _) (by omega), hE⟩

theorem spl_snoc_eq {c : UInt8} : ∀ (x : List UInt8), spl c (x ++ [c]) = spl c x ++ [[]] := by
  intro x
  induction x with
  | nil => simp [spl]
  | cons b x ih =>
    rw [List.cons_append, spl, ih]
    conv => rhs; rw [spl]
    by_cases h : b = c
    · rw [if_pos h, if_pos h, List.cons_append]
    · rw [if_neg h, if_neg h]
      cases hs : spl c x with
      | nil => exact absurd hs spl_ne
      | cons p q => rfl
theorem spl_snoc_ne {c b : UInt8} (hb : b ≠ c) : ∀ (x : List UInt8) {o : List (List UInt8)} {y : List UInt8}, spl c x = o ++ [y] → spl c (x ++ [b]) = o ++ [y ++ [b]] := by
  intro x
  induction x with
  | nil =>
    intro o y h
    have h1 : o = [] ∧ y = [] := by
      cases o with
      | nil => simp [spl] at h; exact ⟨rfl, h⟩
      | cons p q => simp [spl] at h
    obtain ⟨rfl, rfl⟩ := h1
    simp [spl, hb]
  | cons d x ih =>
    intro o y h
    rw [List.cons_append, spl]
    rw [spl] at h
    by_cases hd : d = c
    · rw [if_pos hd] at h ⊢
      cases o with
      | nil => simp at h; exact absurd h.2 spl_ne
      | cons p q =>
        rw [List.cons_append] at h
        simp only [List.cons.injEq] at h
        rw [ih h.2, ← h.1]; rfl
    · rw [if_neg hd] at h ⊢
      cases hs : spl c x with
      | nil => exact absurd hs spl_ne
      | cons p q =>
        rw [hs] at h
        cases o with
        | nil =>
          simp at h
          have : spl c x = [] ++ [p] := by rw [hs, h.2]; rfl
          rw [ih this, ← h.1]
          rfl
        | cons p' q' =>
          simp only [List.cons_append, List.cons.injEq] at h
          have : spl c x = (p :: q') ++ [y] := by rw [hs, h.2]; rfl
          rw [ih this, ← h.1]
          rfl
section
variable {c : UInt8} {l : List UInt8} {i f : Nat} {o : List (List UInt8)} {k : Int}
def SpI (c : UInt8) (l : List UInt8) (i f : Nat) (o : List (List UInt8)) : Prop := f ≤ i ∧ i ≤ l.length ∧ spl c (l.take i) = o ++ [(l.take i).drop f]
theorem SpI.zero : SpI c l 0 0 [] := ⟨Nat.le_refl _, Nat.zero_le _, by simp [spl]⟩
theorem SpI.hit (h : SpI c l i f o) (hi : i < l.length) (hc : l[i] = c) : SpI c l (i + 1) (i + 1) (o ++ [(l.take i).drop f]) := by
  refine ⟨Nat.le_refl _, hi, ?_⟩
  rw [List.take_succ_eq_append_getElem hi, hc, spl_snoc_eq, h.2.2]
  congr 2
  rw [List.drop_eq_nil_of_le (by rw [List.length_append, List.length_take]; simp; omega)]
theorem SpI.miss (h : SpI c l i f o) (hi : i < l.length) (hc : l[i] ≠ c) : SpI c l (i + 1) f o := by
  refine ⟨by have := h.1; omega, hi, ?_⟩
  rw [List.take_succ_eq_append_getElem hi, spl_snoc_ne hc _ h.2.2]
  congr 2
  rw [List.drop_append_of_le_length (by rw [List.length_take]; have := h.1; omega)]
theorem SpI.done (h : SpI c l l.length f o) : spl c l = o ++ [l.drop f] := by
  have := h.2.2
  rwa [List.take_length] at this
theorem SpI.len (h : SpI c l i f o) : o.length ≤ i := by
  have h1 := spl_len (c := c) (l := l.take i)
  rw [h.2.2, List.length_append, List.length_take] at h1
  have := h.2.1
  simp only [List.length_cons, List.length_nil] at h1
  omega
end

set_option maxRecDepth 100000 in
theorem l1Split_spec (l : List UInt8) (cc : UInt8) (k : Int) (w : World) (hk : k = (cc.toNat : Int)) (hl : l.length ≤ 1048576) :
    Fn Tryz.prog 9 #[.string (bs l), VU k] w (fun o9 w' => ∃ a c, o9 = .slice a (spl cc l).length c ∧ WS w.heap.size w'.heap.size w' a c (spl cc l) ∧ Ext w w') := by
  have hbl := bs_size l
  have hE := Ext.refl w
  refine Fn_of Tryz.func9 rfl rfl (by kernel_rfl) rfl ?_
  refine W_seq ?_
  refine W_region ?_
  refine WL_q rfl (ev_assign rfl) ?_
  refine WL_nil ?_
  refine thenE_n ?_
  refine W_seq ?_
  refine W_region ?_
  refine WL_q rfl (ev_assign rfl) ?_
  refine WL_nil ?_
  refine thenE_n ?_
  refine W_seq ?_
  refine W_region ?_
  refine WL_q rfl (ev_assign rfl) ?_
  refine WL_nil ?_
  refine thenE_n ?_
  refine W_seq ?_
  refine W_seq ?_
  refine W_region ?_
  refine WL_q rfl (ev_assign rfl) ?_
  refine WL_nil ?_
  refine thenE_n ?_
  refine W_block ?_
  refine W_loopC (G := Nat × Nat × List (List UInt8) × Option Addr × Nat) [(0, _), (1, _)] ((Subs.c rfl (Subs.c rfl Subs.n))) (fun ⟨i, f, o, a, c⟩ => [(5, .slice a o.length c), (6, VI (f : Int)), (7, VI (i : Int))]) (fun ⟨i, f, o, a, c⟩ w' => Lo (w.heap.size) w w' ∧ SpI cc l i f o ∧ OwnH w.heap.size w'.heap.size 0 0 w' 9 1 a o.length c (o.map vS)) (fun g => l.length - g.1) (0, 0, [], none, 0) ((Subs.c rfl (Subs.c rfl (Subs.c (lkI rfl (by omega)) Subs.n)))) (⟨Lo.refl (by omega), ⟨SpI.zero, OwnH.nil⟩⟩) ?_
  rintro ⟨i, f, o, a, c⟩ wL0 ⟨hRL0, hs, hO⟩
  have hzL0 := hRL0.size
  replace hE := hE.lo hRL0 (by omega)
  have hsl := hs.len
  have hs1 := hs.1
  have hs2 := hs.2.1
  refine W_seq ?_
  refine W_seq ?_
  refine W_region ?_
  refine WL_q rfl (ev_move rfl) ?_
  refine WL_q rfl (ev_move rfl) ?_
  refine WL_q rfl (ev_len_s Tryz.underlying9 rfl) ?_
  refine WL_q rfl (ev_lss rfl rfl) ?_
  refine WL_nil ?_
  refine thenE_n ?_
  refine W_cond rfl (fun hg11 => ?_) (fun hg11 => ?_)
  · have hp11 := of_decide_eq_true hg11
    refine W_skip ?_
    refine thenE_n ?_
    refine W_seq ?_
    refine W_block ?_
    refine W_seq ?_
    refine W_region ?_
    refine WL_q rfl (ev_move rfl) ?_
    refine WL_q rfl (ev_move rfl) ?_
    have hlt : i < l.length := by omega
    refine WL_q rfl (ev_indexS Tryz.underlying9 rfl rfl (by omega) (by omega)) ?_
    refine WL_q rfl (ev_move rfl) ?_
    refine WL_q rfl (ev_eql_b8 rfl rfl) ?_
    refine WL_nil ?_
    refine thenE_n ?_
    refine W_cond rfl (fun hg18 => ?_) (fun hg18 => ?_)
    · have hp18 := of_decide_eq_true hg18
      refine W_seq ?_
      refine W_region ?_
      refine WL_q rfl (ev_move rfl) ?_
      refine WL_q rfl (ev_move rfl) ?_
      refine WL_q rfl (ev_move rfl) ?_
      refine WL_q rfl (ev_move rfl) ?_
      refine WL_q rfl (ev_sliceS_lohi Tryz.underlying9 rfl rfl rfl (by omega) (by omega) (by omega)) ?_
      refine WL_m rfl (ev_lit1 Tryz.underlying32 el9 (by decide) (by decide) rfl rfl) ?_
      rintro _ w24 ⟨rfl, hN24⟩
      have hz24 := hN24.size
      replace hE := hE.trans hN24.ext
      replace hRL0 := hRL0.trans hN24.ext
      replace hO := hO.ext hN24.ext
      have hB24 := hN24.blk
      refine WL_m rfl (ev_appendT Tryz.underlying32 el9 rfl (by decide) rfl rfl hO (SAt.of_blk (cs := [_]) (ds := []) hB24) rfl (by simp [Value.oneCell']) (by omega) (by unfold maxLen; omega) (by omega)) ?_
      rintro _ w25 ⟨a25, c25, rfl, hO25, hK25, hQ25⟩
      have hz25 := hK25.size
      replace hE := hE.rg hK25 (by omega)
      replace hRL0 := hRL0.rg hK25 (by omega)
      replace hO := hO25
      refine WL_q rfl (ev_assign rfl) ?_
      refine WL_nil ?_
      refine thenE_n ?_
      refine W_region ?_
      refine WL_q rfl (ev_move rfl) ?_
      refine WL_q rfl (ev_add rfl rfl (by omega)) ?_
      refine WL_q rfl (ev_assign rfl) ?_
      refine WL_nil ?_
      refine blockE_n ?_
      refine thenE_n ?_
      refine W_region ?_
      refine WL_q rfl (ev_move rfl) ?_
      refine WL_q rfl (ev_add rfl rfl (by omega)) ?_
      refine WL_q rfl (ev_assign rfl) ?_
      refine WL_nil ?_
      refine thenE_n ?_
      exact ⟨(i + 1, i + 1, o ++ [(l.take i).drop f], a25, c25), (Subs.c rfl (Subs.c rfl Subs.n)), (Subs.c (lkS rfl (by rw [List.length_append]; rfl)) (Subs.c (lkI rfl (by omega)) (Subs.c (lkI rfl (by omega)) Subs.n))), ⟨hRL0, ⟨hs.hit hlt (UInt8.toNat_inj.1 (by simp only [Int.toNat_natCast] at hp18; omega)), by rw [List.length_append, List.map_append]; exact hO⟩⟩, by first | omega | (dsimp only; omega)⟩
    · have hp18 := of_decide_eq_false hg18
      refine W_skip ?_
      refine blockE_n ?_
      refine thenE_n ?_
      refine W_region ?_
      refine WL_q rfl (ev_move rfl) ?_
      refine WL_q rfl (ev_add rfl rfl (by omega)) ?_
      refine WL_q rfl (ev_assign rfl) ?_
      refine WL_nil ?_
      refine thenE_n ?_
      exact ⟨(i + 1, f, o, a, c), (Subs.c rfl (Subs.c rfl Subs.n)), (Subs.c rfl (Subs.c rfl (Subs.c (lkI rfl (by omega)) Subs.n))), ⟨hRL0, ⟨hs.miss hlt (fun e => hp18 (by rw [hk, ← e]; rfl)), hO⟩⟩, by first | omega | (dsimp only; omega)⟩
  · have hp11 := of_decide_eq_false hg11
    refine W_exit ?_
    refine thenE_x ?_
    refine thenE_x ?_
    refine blockE_hit ?_
    refine thenE_n ?_
    refine W_seq ?_
    refine W_region ?_
    refine WL_q rfl (ev_move rfl) ?_
    refine WL_q rfl (ev_move rfl) ?_
    refine WL_q rfl (ev_move rfl) ?_
    refine WL_q rfl (ev_sliceS_lo Tryz.underlying9 rfl rfl (by omega) (by omega)) ?_
    refine WL_m rfl (ev_lit1 Tryz.underlying32 el9 (by decide) (by decide) rfl rfl) ?_
    rintro _ w32 ⟨rfl, hN32⟩
    have hz32 := hN32.size
    replace hE := hE.trans hN32.ext
    replace hO := hO.ext hN32.ext
    have hB32 := hN32.blk
    refine WL_m rfl (ev_appendT Tryz.underlying32 el9 rfl (by decide) rfl rfl hO (SAt.of_blk (cs := [_]) (ds := []) hB32) rfl (by simp [Value.oneCell']) (by omega) (by unfold maxLen; omega) (by omega)) ?_
    rintro _ w33 ⟨a33, c33, rfl, hO33, hK33, hQ33⟩
    have hz33 := hK33.size
    replace hE := hE.rg hK33 (by omega)
    replace hO := hO33
    refine WL_q rfl (ev_assign rfl) ?_
    refine WL_nil ?_
    refine thenE_n ?_
    refine W_ret ?_
    refine ret1 rfl rfl ?_
    have hi9 : i = l.length := by omega
    rw [hi9] at hs
    have hd := hs.done
    have hW : WS w.heap.size w33.heap.size w33 a33 c33 (spl cc l) := by rw [hd]; exact Own.ws (n := o.length + 1) (by rw [List.map_append]; exact hO.1)
    exact ⟨a33, c33, by rw [hd, List.length_append]; rfl, hW, hE⟩

end Go.Proofs.YtdpdjbfjjlpfgaaGreatDoor
