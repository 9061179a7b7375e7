/- Reading numbers and words: what the parsers' small functions compute. -/
import Derived.Test.YtdpdjbfjjlpfgaaGreatDoorPlib
import Derived.Test.YtdpdjbfjjlpfgaaGreatDoorPmx2
namespace Go.Proofs.YtdpdjbfjjlpfgaaGreatDoor
open Go Go.RowKit

/-- A word as a number: the reader of the program. -/
def rdI (l : List UInt8) : Option Int := if 1 ≤ l.length ∧ l.length ≤ 6 then (match Lib.atoi l with | none => none | some n => if 0 ≤ n ∧ Lib.itoa n = l then some n else none) else none
def gI (l : List UInt8) : Option Int := if l = [42] then some (-1) else rdI l
theorem rdI_no {l : List UInt8} (h : (l.length : Int) < 1 ∨ (l.length : Int) > 6) : rdI l = none := by unfold rdI; rw [if_neg (by omega)]
theorem rdI_err {l : List UInt8} (h : Lib.atoi l = none) : rdI l = none := by
  unfold rdI; rw [h]; simp
theorem rdI_out {l : List UInt8} {n : Int} (h : Lib.atoi l = some n) (k : n < 0 ∨ ¬ Lib.itoa n = l) : rdI l = none := by
  unfold rdI; rw [h]
  show (if _ then (if 0 ≤ n ∧ Lib.itoa n = l then some n else none) else none) = none
  rw [if_neg (show ¬ (0 ≤ n ∧ Lib.itoa n = l) from fun q => k.elim (fun e => by omega) (fun e => e q.2))]
  split <;> rfl
theorem rdI_yes {l : List UInt8} {n : Int} (h1 : 1 ≤ l.length ∧ l.length ≤ 6) (h : Lib.atoi l = some n) (h0 : 0 ≤ n) (k : Lib.itoa n = l) : rdI l = some n := by
  unfold rdI; rw [if_pos h1, h]
  show (if 0 ≤ n ∧ Lib.itoa n = l then some n else none) = some n
  rw [if_pos ⟨h0, k⟩]

set_option maxRecDepth 100000 in
theorem readNumber_spec {B : Nat} (l : List UInt8) (w : World) (hG : LibB B w) :
    Fn Tryz.prog 47 #[.string (bs l)] w (fun o9 w' => ∃ n q, o9 = .tuple #[VI n, VB q] ∧ (q = true ∧ rdI l = some n ∨ q = false ∧ rdI l = none) ∧ Ext w w') := by
  have hbl := bs_size l
  have hE := Ext.refl w
  refine Fn_of Tryz.func47 rfl rfl (by kernel_rfl) rfl ?_
  refine W_seq ?_
  refine W_region ?_
  refine WL_q rfl (ev_assign rfl) ?_
  refine WL_q rfl (ev_assign rfl) ?_
  refine WL_nil ?_
  refine thenE_n ?_
  refine W_seq ?_
  refine W_seq ?_
  refine W_region ?_
  refine WL_q rfl (ev_move rfl) ?_
  refine WL_q rfl (ev_len_s Tryz.underlying9 rfl) ?_
  refine WL_q rfl (ev_lss rfl rfl) ?_
  refine WL_q rfl (ev_move rfl) ?_
  refine WL_splitv (t := 9) rfl (fun hg8 => ?_) (fun hg8 => ?_)
  · have hp8 := of_decide_eq_true hg8
    refine WL_no rfl rfl hg8 rfl ?_
    refine WL_no rfl rfl hg8 rfl ?_
    refine WL_no rfl rfl hg8 rfl ?_
    refine WL_q rfl (ev_pick_t rfl hg8 rfl) ?_
    refine WL_nil ?_
    refine thenE_n ?_
    refine W_cond_t rfl ?_
    refine W_seq ?_
    refine W_region ?_
    refine WL_q rfl (ev_assign rfl) ?_
    refine WL_q rfl (ev_assign rfl) ?_
    refine WL_nil ?_
    refine thenE_n ?_
    refine W_ret ?_
    refine thenE_r ?_
    refine ret2 rfl rfl rfl ?_
    exact ⟨0, false, rfl, .inr ⟨rfl, rdI_no (by omega)⟩, hE⟩
  · have hp8 := of_decide_eq_false hg8
    refine WL_qg rfl rfl hg8 rfl (ev_move rfl) ?_
    refine WL_qg rfl rfl hg8 rfl (ev_len_s Tryz.underlying9 rfl) ?_
    refine WL_qg rfl rfl hg8 rfl (ev_gtr rfl rfl) ?_
    refine WL_q rfl (ev_pick_f rfl hg8 rfl) ?_
    refine WL_nil ?_
    refine thenE_n ?_
    refine W_cond rfl (fun hg12 => ?_) (fun hg12 => ?_)
    · have hp12 := of_decide_eq_true hg12
      refine W_seq ?_
      refine W_region ?_
      refine WL_q rfl (ev_assign rfl) ?_
      refine WL_q rfl (ev_assign rfl) ?_
      refine WL_nil ?_
      refine thenE_n ?_
      refine W_ret ?_
      refine thenE_r ?_
      refine ret2 rfl rfl rfl ?_
      exact ⟨0, false, rfl, .inr ⟨rfl, rdI_no (by omega)⟩, hE⟩
    · have hp12 := of_decide_eq_false hg12
      refine W_skip ?_
      refine thenE_n ?_
      refine W_seq ?_
      refine W_region ?_
      refine WL_q rfl (ev_move rfl) ?_
      refine WL_m rfl (ev_call rfl (Atoi_spec l _ hG (by omega))) ?_
      rintro _ w16 ⟨n, e, qe, rfl, he, hn1, hn2, hb, hE16⟩
      have hz16 := hE16.size
      replace hE := hE.trans hE16
      replace hG := hG.ext hE16
      refine WL_q rfl (ev_move rfl) ?_
      refine WL_q rfl (ev_extract rfl rfl) ?_
      refine WL_q rfl (ev_extract rfl rfl) ?_
      refine WL_q rfl (ev_assign rfl) ?_
      refine WL_q rfl (ev_assign rfl) ?_
      refine WL_nil ?_
      refine thenE_n ?_
      refine W_seq ?_
      refine W_seq ?_
      refine W_region ?_
      refine WL_q rfl (ev_move rfl) ?_
      refine WL_q rfl (ev_neq_err (by kernel_rfl) rfl he) ?_
      refine WL_q rfl (ev_move rfl) ?_
      refine WL_splitv (t := 21) rfl (fun hg21 => ?_) (fun hg21 => ?_)
      · refine WL_no rfl rfl hg21 rfl ?_
        refine WL_no rfl rfl hg21 rfl ?_
        refine WL_q rfl (ev_pick_t rfl hg21 rfl) ?_
        refine WL_q rfl (ev_move rfl) ?_
        refine WL_no rfl rfl rfl rfl ?_
        refine WL_no rfl rfl rfl rfl ?_
        refine WL_no rfl rfl rfl rfl ?_
        refine WL_no rfl rfl rfl rfl ?_
        refine WL_q rfl (ev_pick_t rfl rfl rfl) ?_
        refine WL_nil ?_
        refine thenE_n ?_
        refine W_cond_t rfl ?_
        refine W_seq ?_
        refine W_region ?_
        refine WL_q rfl (ev_assign rfl) ?_
        refine WL_q rfl (ev_assign rfl) ?_
        refine WL_nil ?_
        refine thenE_n ?_
        refine W_ret ?_
        refine thenE_r ?_
        refine ret2 rfl rfl rfl ?_
        exact ⟨0, false, rfl, .inr ⟨rfl, rdI_err (hn1 hg21)⟩, hE⟩
      · refine WL_qg rfl rfl hg21 rfl (ev_move rfl) ?_
        refine WL_qg rfl rfl hg21 rfl (ev_lss rfl rfl) ?_
        refine WL_q rfl (ev_pick_f rfl hg21 rfl) ?_
        refine WL_q rfl (ev_move rfl) ?_
        refine WL_splitv (t := 25) rfl (fun hg23 => ?_) (fun hg23 => ?_)
        · have hp23 := of_decide_eq_true hg23
          refine WL_no rfl rfl hg23 rfl ?_
          refine WL_no rfl rfl hg23 rfl ?_
          refine WL_no rfl rfl hg23 rfl ?_
          refine WL_no rfl rfl hg23 rfl ?_
          refine WL_q rfl (ev_pick_t rfl hg23 rfl) ?_
          refine WL_nil ?_
          refine thenE_n ?_
          refine W_cond_t rfl ?_
          refine W_seq ?_
          refine W_region ?_
          refine WL_q rfl (ev_assign rfl) ?_
          refine WL_q rfl (ev_assign rfl) ?_
          refine WL_nil ?_
          refine thenE_n ?_
          refine W_ret ?_
          refine thenE_r ?_
          refine ret2 rfl rfl rfl ?_
          exact ⟨0, false, rfl, .inr ⟨rfl, rdI_out (hn2 hg21) (.inl hp23)⟩, hE⟩
        · have hp23 := of_decide_eq_false hg23
          refine WL_qg rfl rfl hg23 rfl (ev_move rfl) ?_
          refine WL_mg rfl rfl hg23 rfl (ev_call rfl (ItoaT_spec n _ hG hb)) ?_
          rintro _ w27 ⟨rfl, hE27⟩
          have hz27 := hE27.size
          replace hE := hE.trans hE27
          replace hG := hG.ext hE27
          refine WL_qg rfl rfl hg23 rfl (ev_move rfl) ?_
          refine WL_qg rfl rfl hg23 rfl (ev_neq_str rfl rfl) ?_
          refine WL_q rfl (ev_pick_f rfl hg23 rfl) ?_
          refine WL_nil ?_
          refine thenE_n ?_
          refine W_cond rfl (fun hg29 => ?_) (fun hg29 => ?_)
          · have hp29 := of_decide_eq_true hg29
            refine W_seq ?_
            refine W_region ?_
            refine WL_q rfl (ev_assign rfl) ?_
            refine WL_q rfl (ev_assign rfl) ?_
            refine WL_nil ?_
            refine thenE_n ?_
            refine W_ret ?_
            refine thenE_r ?_
            refine ret2 rfl rfl rfl ?_
            exact ⟨0, false, rfl, .inr ⟨rfl, rdI_out (hn2 hg21) (.inr hp29)⟩, hE⟩
          · have hp29 := of_decide_eq_false hg29
            refine W_skip ?_
            refine thenE_n ?_
            refine W_seq ?_
            refine W_region ?_
            refine WL_q rfl (ev_move rfl) ?_
            refine WL_q rfl (ev_assign rfl) ?_
            refine WL_q rfl (ev_assign rfl) ?_
            refine WL_nil ?_
            refine thenE_n ?_
            refine W_ret ?_
            refine ret2 rfl rfl rfl ?_
            exact ⟨n, true, rfl, .inl ⟨rfl, rdI_yes (by omega) (hn2 hg21) (by omega) (Decidable.of_not_not hp29)⟩, hE⟩

section
variable {g : List UInt8 → Option Int} {ws : List (List UInt8)} {i : Nat} {n : Int}
theorem okN_nil : okNums g [] := fun w h => by cases h
theorem okN_step (h : okNums g (ws.take i)) (hlt : i < ws.length) (e : g ws[i] = some n) : okNums g (ws.take (i + 1)) := by
  rw [List.take_succ_eq_append_getElem hlt]
  intro w hw
  rcases List.mem_append.1 hw with hw | hw
  · exact h w hw
  · rw [List.mem_singleton.1 hw, e]; simp
theorem numsOf_step (hlt : i < ws.length) (e : g ws[i] = some n) : numsOf g (ws.take (i + 1)) = numsOf g (ws.take i) ++ [n] := by
  rw [List.take_succ_eq_append_getElem hlt]
  simp only [numsOf, List.map_append, List.map_cons, List.map_nil, e, Option.getD_some]
theorem okN_no (hlt : i < ws.length) (e : g ws[i] = none) : ¬ okNums g ws := fun h => h _ (List.getElem_mem hlt) e
theorem numsOf_len : (numsOf g ws).length = ws.length := by simp [numsOf]
end
theorem gI_star {l : List UInt8} (h : l = [42]) : gI l = some (-1) := by unfold gI; rw [if_pos h]
theorem gI_num {l : List UInt8} {o : Option Int} (h : ¬ l = [42]) (e : rdI l = o) : gI l = o := by unfold gI; rw [if_neg h, e]

set_option maxRecDepth 100000 in
theorem starNumbers_spec {B lo hi : Nat} (a0 : Option Addr) (c0 : Nat) (ws : List (List UInt8)) (w : World) (hG : LibB B w) (hW : WS lo hi w a0 c0 ws) (hhi : hi ≤ w.heap.size) (hn : ws.length ≤ 1048577) :
    Fn Tryz.prog 35 #[.slice a0 ws.length c0] w (fun o9 w' => ∃ a c q xs, o9 = .tuple #[.slice a xs.length c, VB q] ∧ (q = true ∧ okNums gI ws ∧ xs = numsOf gI ws ∨ q = false ∧ ¬ okNums gI ws ∧ xs = []) ∧ OwnH w.heap.size w'.heap.size 0 0 w' 3 1 a xs.length c (xs.map VI) ∧ Ext w w') := by
  have hBw := hG.1
  have hE := Ext.refl w
  refine Fn_of Tryz.func35 rfl rfl (by kernel_rfl) rfl ?_
  refine W_seq ?_
  refine W_region ?_
  refine WL_q rfl (ev_assign rfl) ?_
  refine WL_q rfl (ev_assign rfl) ?_
  refine WL_nil ?_
  refine thenE_n ?_
  refine W_seq ?_
  refine W_region ?_
  refine WL_q rfl (ev_assign rfl) ?_
  refine WL_nil ?_
  refine thenE_n ?_
  refine W_seq ?_
  refine W_seq ?_
  refine W_region ?_
  refine WL_q rfl (ev_move rfl) ?_
  refine WL_q rfl (ev_len Tryz.underlying32 rfl) ?_
  refine WL_q rfl (ev_move rfl) ?_
  refine WL_nil ?_
  refine thenE_n ?_
  refine W_block ?_
  refine W_loopC (G := Nat × Option Addr × Nat) [(9, _), (10, _)] ((Subs.c rfl (Subs.c rfl Subs.n))) (fun ⟨i, a, c⟩ => [(4, .slice a i c), (11, VI (i : Int))]) (fun ⟨i, a, c⟩ w' => Lo (w.heap.size) w w' ∧ i ≤ ws.length ∧ okNums gI (ws.take i) ∧ OwnH w.heap.size w'.heap.size 0 0 w' 3 1 a i c ((numsOf gI (ws.take i)).map VI)) (fun g => ws.length - g.1) (0, none, 0) ((Subs.c rfl (Subs.c (lkI rfl (by omega)) Subs.n))) (⟨Lo.refl (by omega), ⟨Nat.zero_le _, okN_nil, OwnH.nil⟩⟩) ?_
  rintro ⟨i, a, c⟩ wL0 ⟨hRL0, hi', hk, hO⟩
  have hzL0 := hRL0.size
  replace hG := hG.lo hRL0 (by omega)
  replace hW := hW.lo hRL0 (by omega)
  replace hE := hE.lo hRL0 (by omega)
  refine W_seq ?_
  refine W_region ?_
  refine WL_q rfl (ev_lss rfl rfl) ?_
  refine WL_nil ?_
  refine thenE_n ?_
  refine W_seq ?_
  refine W_cond rfl (fun hg12 => ?_) (fun hg12 => ?_)
  · have hp12 := of_decide_eq_true hg12
    refine W_skip ?_
    refine thenE_n ?_
    refine W_seq ?_
    refine W_block ?_
    refine W_seq ?_
    refine W_region ?_
    have hlt : i < ws.length := by omega
    refine WL_q rfl (ev_indexAddr Tryz.underlying32 sz9 rfl rfl (hW.isSome (by omega)) (by omega) (by omega)) ?_
    refine WL_q rfl (ev_load one9 rfl (hW.cell hlt)) ?_
    refine WL_q rfl (ev_assign rfl) ?_
    refine WL_nil ?_
    refine thenE_n ?_
    refine W_seq ?_
    refine W_region ?_
    refine WL_q rfl (ev_move rfl) ?_
    refine WL_m rfl (ev_call rfl (readNumber_spec ws[i] _ hG)) ?_
    rintro _ w17 ⟨n, q, rfl, hq, hE17⟩
    have hz17 := hE17.size
    replace hE := hE.trans hE17
    replace hRL0 := hRL0.trans hE17
    replace hG := hG.ext hE17
    replace hW := hW.ext hE17
    replace hO := hO.ext hE17
    refine WL_q rfl (ev_move rfl) ?_
    refine WL_q rfl (ev_extract rfl rfl) ?_
    refine WL_q rfl (ev_extract rfl rfl) ?_
    refine WL_q rfl (ev_assign rfl) ?_
    refine WL_q rfl (ev_assign rfl) ?_
    refine WL_nil ?_
    refine thenE_n ?_
    refine W_seq ?_
    refine W_seq ?_
    refine W_region ?_
    refine WL_q rfl (ev_move rfl) ?_
    refine WL_q rfl (ev_eql_str (b := [42]) rfl rfl) ?_
    refine WL_nil ?_
    refine thenE_n ?_
    refine W_cond rfl (fun hg21 => ?_) (fun hg21 => ?_)
    · have hp21 := of_decide_eq_true hg21
      refine W_region ?_
      refine WL_q rfl (ev_assign rfl) ?_
      refine WL_q rfl (ev_assign rfl) ?_
      refine WL_nil ?_
      refine thenE_n ?_
      refine W_seq ?_
      refine W_seq ?_
      refine W_region ?_
      refine WL_q rfl (ev_move rfl) ?_
      refine WL_q rfl (ev_not rfl) ?_
      refine WL_nil ?_
      refine thenE_n ?_
      refine W_cond rfl (fun hg23 => ?_) (fun hg23 => ?_)
      · refine W_seq ?_
        refine W_region ?_
        refine WL_q rfl (ev_assign rfl) ?_
        refine WL_q rfl (ev_assign rfl) ?_
        refine WL_nil ?_
        refine thenE_n ?_
        refine W_ret ?_
        refine thenE_r ?_
        refine blockE_r ?_
        refine thenE_r ?_
        refine thenE_r ?_
        refine blockE_r ?_
        refine thenE_r ?_
        refine ret2 rfl rfl rfl ?_
        exact absurd hg23 (by decide)
      · refine W_skip ?_
        refine thenE_n ?_
        refine W_region ?_
        refine WL_q rfl (ev_move rfl) ?_
        refine WL_q rfl (ev_move rfl) ?_
        refine WL_m rfl (ev_lit1 Tryz.underlying24 el3 (by decide) (by decide) rfl rfl) ?_
        rintro _ w26 ⟨rfl, hN26⟩
        have hz26 := hN26.size
        replace hE := hE.trans hN26.ext
        replace hRL0 := hRL0.trans hN26.ext
        replace hG := hG.ext hN26.ext
        replace hW := hW.ext hN26.ext
        replace hO := hO.ext hN26.ext
        have hB26 := hN26.blk
        refine WL_m rfl (ev_appendT Tryz.underlying24 el3 rfl (by decide) rfl rfl hO (SAt.of_blk (cs := [_]) (ds := []) hB26) rfl (by simp [Value.oneCell']) (by omega) (by unfold maxLen; omega) (by omega)) ?_
        rintro _ w27 ⟨a27, c27, rfl, hO27, hK27, hQ27⟩
        have hz27 := hK27.size
        replace hE := hE.rg hK27 (by omega)
        replace hRL0 := hRL0.rg hK27 (by omega)
        replace hG := hG.rg hK27 (by omega)
        replace hW := hW.rg hK27 (by omega)
        replace hB26 := hB26.rg hK27 (by omega)
        replace hO := hO27
        replace hO := ownt_snocI hO
        refine WL_q rfl (ev_assign rfl) ?_
        refine WL_nil ?_
        refine blockE_n ?_
        refine thenE_n ?_
        refine W_region ?_
        refine WL_q rfl (ev_add rfl rfl (by omega)) ?_
        refine WL_q rfl (ev_move rfl) ?_
        refine WL_nil ?_
        refine thenE_n ?_
        exact ⟨(i + 1, a27, c27), (Subs.c rfl (Subs.c rfl Subs.n)), (Subs.c rfl (Subs.c (lkI rfl (by omega)) Subs.n)), ⟨hRL0, ⟨by omega, okN_step hk hlt (gI_star hp21), by rw [numsOf_step hlt (gI_star hp21)]; exact hO⟩⟩, by first | omega | (dsimp only; omega)⟩
    · have hp21 := of_decide_eq_false hg21
      refine W_skip ?_
      refine thenE_n ?_
      refine W_seq ?_
      refine W_seq ?_
      refine W_region ?_
      refine WL_q rfl (ev_move rfl) ?_
      refine WL_q rfl (ev_not rfl) ?_
      refine WL_nil ?_
      refine thenE_n ?_
      refine W_cond rfl (fun hg23 => ?_) (fun hg23 => ?_)
      · have hg19 := not_true hg23
        refine W_seq ?_
        refine W_region ?_
        refine WL_q rfl (ev_assign rfl) ?_
        refine WL_q rfl (ev_assign rfl) ?_
        refine WL_nil ?_
        refine thenE_n ?_
        refine W_ret ?_
        refine thenE_r ?_
        refine blockE_r ?_
        refine thenE_r ?_
        refine thenE_r ?_
        refine blockE_r ?_
        refine thenE_r ?_
        refine ret2 rfl rfl rfl ?_
        exact ⟨none, 0, false, [], rfl, .inr ⟨rfl, okN_no hlt (gI_num hp21 (hq.elim (fun h => absurd (h.1.symm.trans hg19) (by decide)) (·.2))), rfl⟩, OwnH.nil, hE⟩
      · have hg19 := not_false hg23
        refine W_skip ?_
        refine thenE_n ?_
        refine W_region ?_
        refine WL_q rfl (ev_move rfl) ?_
        refine WL_q rfl (ev_move rfl) ?_
        refine WL_m rfl (ev_lit1 Tryz.underlying24 el3 (by decide) (by decide) rfl rfl) ?_
        rintro _ w26 ⟨rfl, hN26⟩
        have hz26 := hN26.size
        replace hE := hE.trans hN26.ext
        replace hRL0 := hRL0.trans hN26.ext
        replace hG := hG.ext hN26.ext
        replace hW := hW.ext hN26.ext
        replace hO := hO.ext hN26.ext
        have hB26 := hN26.blk
        refine WL_m rfl (ev_appendT Tryz.underlying24 el3 rfl (by decide) rfl rfl hO (SAt.of_blk (cs := [_]) (ds := []) hB26) rfl (by simp [Value.oneCell']) (by omega) (by unfold maxLen; omega) (by omega)) ?_
        rintro _ w27 ⟨a27, c27, rfl, hO27, hK27, hQ27⟩
        have hz27 := hK27.size
        replace hE := hE.rg hK27 (by omega)
        replace hRL0 := hRL0.rg hK27 (by omega)
        replace hG := hG.rg hK27 (by omega)
        replace hW := hW.rg hK27 (by omega)
        replace hB26 := hB26.rg hK27 (by omega)
        replace hO := hO27
        replace hO := ownt_snocI hO
        refine WL_q rfl (ev_assign rfl) ?_
        refine WL_nil ?_
        refine blockE_n ?_
        refine thenE_n ?_
        refine W_region ?_
        refine WL_q rfl (ev_add rfl rfl (by omega)) ?_
        refine WL_q rfl (ev_move rfl) ?_
        refine WL_nil ?_
        refine thenE_n ?_
        exact ⟨(i + 1, a27, c27), (Subs.c rfl (Subs.c rfl Subs.n)), (Subs.c rfl (Subs.c (lkI rfl (by omega)) Subs.n)), ⟨hRL0, ⟨by omega, okN_step hk hlt (gI_num hp21 (hq.elim (·.2) fun h => absurd (h.1.symm.trans hg19) (by decide))), by rw [numsOf_step hlt (gI_num hp21 (hq.elim (·.2) fun h => absurd (h.1.symm.trans hg19) (by decide)))]; exact hO⟩⟩, by first | omega | (dsimp only; omega)⟩
  · have hp12 := of_decide_eq_false hg12
    refine W_exit ?_
    refine thenE_x ?_
    refine thenE_x ?_
    refine blockE_hit ?_
    refine thenE_n ?_
    refine W_seq ?_
    refine W_region ?_
    refine WL_q rfl (ev_move rfl) ?_
    refine WL_q rfl (ev_assign rfl) ?_
    refine WL_q rfl (ev_assign rfl) ?_
    refine WL_nil ?_
    refine thenE_n ?_
    refine W_ret ?_
    refine ret2 rfl rfl rfl ?_
    have hi9 : i = ws.length := by omega
    rw [hi9, List.take_length] at hk hO
    exact ⟨a, c, true, numsOf gI ws, by rw [numsOf_len, hi9], .inl ⟨rfl, hk, rfl⟩, by rw [numsOf_len]; exact hO.up (Nat.le_refl _) (by omega), hE⟩

theorem ws_one (ls : List (List UInt8)) : ∀ u ∈ ls.map vS, u.oneCell' = true := fun u hu => by obtain ⟨l, _, rfl⟩ := List.mem_map.1 hu; rfl
section
variable {α : Type} {rows : List (List α)} {i : Nat}
theorem fl_step (h : i < rows.length) : (rows.take (i + 1)).flatten = (rows.take i).flatten ++ rows[i] := by
  rw [List.take_succ_eq_append_getElem h, List.flatten_append]; simp
theorem fl_len (h : i < rows.length) : (rows.take (i + 1)).flatten.length = (rows.take i).flatten.length + rows[i].length := by rw [fl_step h, List.length_append]
theorem fl_le (i : Nat) : (rows.take i).flatten.length ≤ rows.flatten.length := by
  have e : (rows.take i ++ rows.drop i).flatten.length = rows.flatten.length := by rw [List.take_append_drop]
  rw [List.flatten_append, List.length_append] at e
  omega
end

set_option maxRecDepth 100000 in
theorem Concat_spec {lo hi : Nat} (a0 : Option Addr) (c0 : Nat) (rows : List (List (List UInt8))) (w : World) (hL : Lls WS lo hi w a0 c0 rows) (hhi : hi ≤ w.heap.size) (hn : rows.flatten.length ≤ 1048576) (hr : rows.length ≤ 4) :
    Fn Tryz.prog 46 #[.slice a0 rows.length c0] w (fun o9 w' => ∃ a c, o9 = .slice a rows.flatten.length c ∧ WS w.heap.size w'.heap.size w' a c rows.flatten ∧ Ext w w') := by
  have hE := Ext.refl w
  refine Fn_of Tryz.func46 rfl rfl (by kernel_rfl) rfl ?_
  refine W_seq ?_
  refine W_region ?_
  refine WL_q rfl (ev_assign rfl) ?_
  refine WL_nil ?_
  refine thenE_n ?_
  refine W_seq ?_
  refine W_region ?_
  refine WL_q rfl (ev_assign rfl) ?_
  refine WL_nil ?_
  refine thenE_n ?_
  refine W_seq ?_
  refine W_seq ?_
  refine W_region ?_
  refine WL_q rfl (ev_move rfl) ?_
  refine WL_q rfl (ev_len Tryz.underlying89 rfl) ?_
  refine WL_q rfl (ev_move rfl) ?_
  refine WL_nil ?_
  refine thenE_n ?_
  refine W_block ?_
  refine W_loopC (G := Nat) [(0, _), (9, _), (10, _)] ((Subs.c rfl (Subs.c rfl (Subs.c rfl Subs.n)))) (fun i => [(3, VI ((rows.take i).flatten.length : Int)), (11, VI (i : Int))]) (fun i w' => Ext w w' ∧ i ≤ rows.length) (fun i => rows.length - i) 0 ((Subs.c rfl (Subs.c (lkI rfl (by omega)) Subs.n))) (⟨Ext.refl _, Nat.zero_le _⟩) ?_
  rintro i wL0 ⟨hRL0, hi'⟩
  have hzL0 := hRL0.size
  replace hE := hE.trans hRL0
  replace hL := hL.ext hRL0
  refine W_seq ?_
  refine W_region ?_
  refine WL_q rfl (ev_lss rfl rfl) ?_
  refine WL_nil ?_
  refine thenE_n ?_
  refine W_seq ?_
  refine W_cond rfl (fun hg12 => ?_) (fun hg12 => ?_)
  · have hp12 := of_decide_eq_true hg12
    refine W_skip ?_
    refine thenE_n ?_
    refine W_seq ?_
    refine W_block ?_
    refine W_seq ?_
    refine W_region ?_
    have hlt : i < rows.length := by omega
    obtain ⟨a2, c2, hc2, hr2⟩ := hL.row (i := i) hlt
    have hf1 := fl_len hlt
    have hf2 := fl_le (rows := rows) (i + 1)
    refine WL_q rfl (ev_indexAddr Tryz.underlying89 sz32 rfl rfl (hL.isSome (by omega)) (by omega) (by omega)) ?_
    refine WL_q rfl (ev_load one32 rfl (hc2)) ?_
    refine WL_q rfl (ev_assign rfl) ?_
    refine WL_nil ?_
    refine thenE_n ?_
    refine W_seq ?_
    refine W_region ?_
    refine WL_q rfl (ev_move rfl) ?_
    refine WL_q rfl (ev_move rfl) ?_
    refine WL_q rfl (ev_len Tryz.underlying32 rfl) ?_
    refine WL_q rfl (ev_add rfl rfl (by omega)) ?_
    refine WL_q rfl (ev_assign rfl) ?_
    refine WL_nil ?_
    refine thenE_n ?_
    refine W_seq ?_
    refine W_region ?_
    refine WL_q rfl (ev_move rfl) ?_
    refine WL_q rfl (ev_lss rfl rfl) ?_
    refine WL_nil ?_
    refine thenE_n ?_
    refine W_cond rfl (fun hg20 => ?_) (fun hg20 => ?_)
    · have hp20 := of_decide_eq_true hg20
      exfalso; omega
    · have hp20 := of_decide_eq_false hg20
      refine W_skip ?_
      refine blockE_n ?_
      refine thenE_n ?_
      refine W_region ?_
      refine WL_q rfl (ev_add rfl rfl (by omega)) ?_
      refine WL_q rfl (ev_move rfl) ?_
      refine WL_nil ?_
      refine thenE_n ?_
      exact ⟨i + 1, (Subs.c rfl (Subs.c rfl (Subs.c rfl Subs.n))), (Subs.c (lkI rfl (by rw [fl_len hlt]; omega)) (Subs.c (lkI rfl (by omega)) Subs.n)), ⟨hRL0, by omega⟩, by first | omega | (dsimp only; omega)⟩
  · have hp12 := of_decide_eq_false hg12
    refine W_exit ?_
    refine thenE_x ?_
    refine thenE_x ?_
    refine blockE_hit ?_
    refine thenE_n ?_
    refine W_seq ?_
    refine W_region ?_
    refine WL_q rfl (ev_move rfl) ?_
    refine WL_m rfl (ev_call rfl (Grow_spec (rows.take i).flatten.length _ (Nat.le_trans (fl_le i) hn))) ?_
    rintro _ w24 ⟨a8, c8, rfl, hO24, hE24⟩
    have hz24 := hE24.size
    replace hE := hE.trans hE24
    replace hL := hL.ext hE24
    refine WL_q rfl (ev_assign rfl) ?_
    refine WL_nil ?_
    refine thenE_n ?_
    refine W_seq ?_
    refine W_seq ?_
    refine W_region ?_
    refine WL_q rfl (ev_move rfl) ?_
    refine WL_q rfl (ev_len Tryz.underlying89 rfl) ?_
    refine WL_q rfl (ev_move rfl) ?_
    refine WL_nil ?_
    refine thenE_n ?_
    refine W_block ?_
    refine W_loopC (G := Nat × Option Addr × Nat) [(25, _), (26, _)] ((Subs.c rfl (Subs.c rfl Subs.n))) (fun ⟨i, a, c⟩ => [(6, .slice a (rows.take i).flatten.length c), (27, VI (i : Int))]) (fun ⟨i, a, c⟩ w' => Lo (w.heap.size) w24 w' ∧ i ≤ rows.length ∧ OwnH w.heap.size w'.heap.size 0 0 w' 9 1 a (rows.take i).flatten.length c ((rows.take i).flatten.map vS)) (fun g => rows.length - g.1) (0, a8, c8) ((Subs.c rfl (Subs.c (lkI rfl (by omega)) Subs.n))) (⟨Lo.refl (by omega), ⟨Nat.zero_le _, (hO24.mono (by omega)).h⟩⟩) ?_
    rintro ⟨i, a, c⟩ wL2 ⟨hRL2, hi', hO⟩
    have hzL2 := hRL2.size
    replace hL := hL.lo hRL2 (by omega)
    replace hE := hE.lo hRL2 (by omega)
    refine W_seq ?_
    refine W_region ?_
    refine WL_q rfl (ev_lss rfl rfl) ?_
    refine WL_nil ?_
    refine thenE_n ?_
    refine W_seq ?_
    refine W_cond rfl (fun hg28 => ?_) (fun hg28 => ?_)
    · have hp28 := of_decide_eq_true hg28
      refine W_skip ?_
      refine thenE_n ?_
      refine W_seq ?_
      refine W_block ?_
      refine W_seq ?_
      refine W_region ?_
      have hlt : i < rows.length := by omega
      obtain ⟨a2, c2, hc2, hr2⟩ := hL.row (i := i) hlt
      have hf1 := fl_len hlt
      have hf2 := fl_le (rows := rows) (i + 1)
      refine WL_q rfl (ev_indexAddr Tryz.underlying89 sz32 rfl rfl (hL.isSome (by omega)) (by omega) (by omega)) ?_
      refine WL_q rfl (ev_load one32 rfl (hc2)) ?_
      refine WL_q rfl (ev_assign rfl) ?_
      refine WL_nil ?_
      refine thenE_n ?_
      refine W_region ?_
      refine WL_q rfl (ev_move rfl) ?_
      refine WL_q rfl (ev_move rfl) ?_
      refine WL_m rfl (ev_appendT Tryz.underlying32 el9 rfl (by decide) rfl rfl hO hr2.sat (by simp) (ws_one _) (by omega) (by unfold maxLen; omega) (by omega)) ?_
      rintro _ w33 ⟨a33, c33, rfl, hO33, hK33, hQ33⟩
      have hz33 := hK33.size
      replace hE := hE.rg hK33 (by omega)
      replace hRL2 := hRL2.rg hK33 (by omega)
      replace hL := hL.rg hK33 (by omega)
      replace hO := hO33
      refine WL_q rfl (ev_assign rfl) ?_
      refine WL_nil ?_
      refine blockE_n ?_
      refine thenE_n ?_
      refine W_region ?_
      refine WL_q rfl (ev_add rfl rfl (by omega)) ?_
      refine WL_q rfl (ev_move rfl) ?_
      refine WL_nil ?_
      refine thenE_n ?_
      exact ⟨(i + 1, a33, c33), (Subs.c rfl (Subs.c rfl Subs.n)), (Subs.c (lkS rfl (fl_len hlt).symm) (Subs.c (lkI rfl (by omega)) Subs.n)), ⟨hRL2, ⟨by omega, by rw [fl_len hlt, fl_step hlt, List.map_append]; exact hO⟩⟩, by first | omega | (dsimp only; omega)⟩
    · have hp28 := of_decide_eq_false hg28
      refine W_exit ?_
      refine thenE_x ?_
      refine thenE_x ?_
      refine blockE_hit ?_
      refine thenE_n ?_
      refine W_seq ?_
      refine W_region ?_
      refine WL_q rfl (ev_move rfl) ?_
      refine WL_q rfl (ev_assign rfl) ?_
      refine WL_nil ?_
      refine thenE_n ?_
      refine W_ret ?_
      refine ret1 rfl rfl ?_
      have hi9 : i = rows.length := by omega
      rw [hi9, List.take_length] at hO
      exact ⟨a, c, by rw [hi9, List.take_length], hO.1.ws.mono (Nat.le_refl _) (Nat.le_refl _), hE⟩

section
variable {P : Program} {L : Env} {w : World}
theorem ev_lit2V {x0 x1 : Operand} {T E ty : TypeId} {u a b : Value} {by' : Nat} (ht : P.underlying T = some (.slice E)) (he : elem? P E = some (u, 1, by')) (h0 : ev L x0 = some a) (h1 : ev L x1 = some b) (ha : a.cells = #[a]) (hb : b.cells = #[b]) :
    EvM P L (.buildSlice T 2 #[(0, x0), (1, x1)]) ty w (fun r w' => r = .slice (some ⟨w.heap.size, 0, none⟩) 2 2 ∧ New w w' E [a, b]) := by
  intro ρ hρ d p f g
  obtain ⟨i, hi, hz, hsi, hby⟩ := elem_parts he
  have hsz' : size? P E = some 1 := by simp [size?, hi, hsi]
  have hzz : zero? P E = some u := by simp [zero?, hi, hz]
  have hgt : ¬ (2 * 1 > 2 ^ 24) := by omega
  have hne : ¬ (2 * 1 = 0) := by omega
  have hbase : ((Array.range (2 * 1)).map fun j => u.cells[j % u.cells.size]!) = [u.cells[0 % u.cells.size]!, u.cells[1 % u.cells.size]!].toArray := by
    apply Array.ext <;> simp
    intro i hi _
    match i, hi with
    | 0, _ => rfl
    | 1, _ => rfl
    | n + 2, h => omega
  have hfill : Instr.fill (fun i => some (i * 1, 1)) ((Array.range (2 * 1)).map fun j => u.cells[j % u.cells.size]!) [(0, a), (1, b)] = some #[a, b] := by
    rw [hbase]
    have := fill_set (fun i => some (i * 1, 1)) [(0, a), (1, b)] [u.cells[0 % u.cells.size]!, u.cells[1 % u.cells.size]!] (by
      intro p hp
      simp at hp
      rcases hp with rfl | rfl
      · exact ⟨rfl, by simp, ha⟩
      · exact ⟨rfl, by simp, hb⟩)
    rw [this]
    rfl
  have := New.mk' w E [a, b]
  simp only [execOp, Instr.buildSlice, Sem.run_bind, run_underlying ht, Result.andThen_ok, run_sizeOf hsz', List.map_toArray, List.map_cons, List.map_nil, hρ x0 _ h0, hρ x1 _ h1, Sem.run_ite, hgt, if_false, hne, run_zero hzz, Sem.run_pure, hfill, newRow, run_newObj_alloc, OpOk]
  exact ⟨trivial, this⟩
end
/-- The words of a clause, without its then. -/
def cwds (ws : List (List UInt8)) (t : Nat) : List (List UInt8) := ws.take t ++ ws.drop (t + 1)
def clOf (ns : List Int) : Cl := (ns.getD 0 0, (ns.drop 1).take (ns.length - 2), ns.getD (ns.length - 1) 0)
open Classical in
noncomputable def clauseI (ws : List (List UInt8)) : Option Cl := if 1 ≤ idxW ws wThn ∧ idxW ws wThn = (ws.length : Int) - 2 ∧ okNums gI (cwds ws (idxW ws wThn).toNat) then some (clOf (numsOf gI (cwds ws (idxW ws wThn).toNat))) else none
theorem clauseI_no {ws : List (List UInt8)} (h : ¬ (1 ≤ idxW ws wThn ∧ idxW ws wThn = (ws.length : Int) - 2 ∧ okNums gI (cwds ws (idxW ws wThn).toNat))) : clauseI ws = none := by unfold clauseI; rw [if_neg h]
theorem clauseI_yes {ws : List (List UInt8)} (h1 : 1 ≤ idxW ws wThn) (h2 : idxW ws wThn = (ws.length : Int) - 2) (h3 : okNums gI (cwds ws (idxW ws wThn).toNat)) : clauseI ws = some (clOf (numsOf gI (cwds ws (idxW ws wThn).toNat))) := by unfold clauseI; rw [if_pos ⟨h1, h2, h3⟩]
theorem wss2 {w : World} {b lo hi n : Nat} {T : TypeId} {a1 a2 : Option Addr} {c1 c2 n1 n2 : Nat} {x y : List (List UInt8)} (hB : Blk w b T [.slice a1 n1 c1, .slice a2 n2 c2]) (h1 : WS lo hi w a1 c1 x) (h2 : WS lo hi w a2 c2 y) (e1 : n1 = x.length) (e2 : n2 = y.length) (hn : hi ≤ n ∧ b < n) : Lls WS 0 n w (some ⟨b, 0, none⟩) 2 [x, y] := by
  subst e1 e2
  refine ⟨[(a1, c1), (a2, c2)], rfl, ⟨by simp, fun r hr => by simp [rowCells] at hr; rcases hr with rfl | rfl <;> rfl, ?_⟩, fun i hi1 hi2 => ?_⟩
  · have : (([(a1, c1), (a2, c2)].zip [x, y]).map fun p => rowCells p.1 p.2).flatten = [.slice a1 x.length c1, .slice a2 y.length c2] := rfl
    rw [this]
    exact (SAt.of_blk (ds := []) hB).mono (Nat.zero_le _) (by omega)
  · match i, hi1 with
    | 0, _ => exact h1.mono (Nat.zero_le _) (by omega)
    | 1, _ => exact h2.mono (Nat.zero_le _) (by omega)

theorem ints_cut {lo hi c : Nat} {w : World} {a : Option Addr} {xs : List Int} (h : Ints lo hi w a c xs) (j m : Nat) (hj : j ≤ xs.length) : Ints lo hi w (if c = j then a else a.map (·.add (j * 1))) (c - j) ((xs.drop j).take m) := by
  have hc := h.cap
  have hs := h.sat
  refine ⟨by simp at hc ⊢; omega, fun r hr => by obtain ⟨q, _, rfl⟩ := List.mem_map.1 hr; rfl, ?_⟩
  have e : ∀ ys : List Int, (ys.map fun x => [VI x]).flatten = ys.map VI := fun ys => by
    induction ys with
    | nil => rfl
    | cons x r ih => simp [ih]
  rw [e]
  have h2 := hs.drop c j (fun e => by rw [List.length_map]; omega)
  rw [Nat.mul_one, ← List.map_drop] at *
  rw [← List.take_append_drop m (xs.drop j), List.map_append] at h2
  exact h2.pre
theorem cl_fst {ns : List Int} (h : 0 < ns.length) : (clOf ns).1 = ns[0] := getD_eq h
theorem cl_lst {ns : List Int} (h : ((ns.length : Int) - 1).toNat < ns.length) : (clOf ns).2.2 = ns[((ns.length : Int) - 1).toNat] := by
  show ns.getD (ns.length - 1) 0 = _
  rw [getD_eq (show ns.length - 1 < ns.length by omega)]
  congr 1; omega
theorem ints_nil {lo hi : Nat} {w : World} : Ints lo hi w none 0 [] := ⟨Nat.le_refl _, fun r hr => (by cases hr), SAt.nil⟩
theorem cwds_len {ws : List (List UInt8)} {t : Nat} (h : t < ws.length) : (cwds ws t).length = ws.length - 1 := by
  unfold cwds; rw [List.length_append, List.length_take, List.length_drop]; omega
theorem cl_in {ns : List Int} (h : 2 ≤ ns.length) : (clOf ns).2.1.length = ns.length - 2 := by
  unfold clOf; simp; omega

set_option maxRecDepth 100000 in
theorem readClause_spec {B lo hi : Nat} (a0 : Option Addr) (c0 : Nat) (ws : List (List UInt8)) (w : World) (hG : LibB B w) (hW : WS lo hi w a0 c0 ws) (hhi : hi ≤ w.heap.size) (hn : ws.length ≤ 1048577) :
    Fn Tryz.prog 33 #[.slice a0 ws.length c0] w (fun o9 w' => ∃ x a c l y q, o9 = .tuple #[.agg #[VI x, .slice a l.length c, VI y], VB q] ∧ (q = true ∧ clauseI ws = some (x, l, y) ∨ q = false ∧ clauseI ws = none ∧ l = []) ∧ Ints w.heap.size w'.heap.size w' a c l ∧ l.length ≤ ws.length ∧ Ext w w') := by
  have hBw := hG.1
  have hcap := hW.cap
  have hE := Ext.refl w
  refine Fn_of Tryz.func33 rfl rfl (by kernel_rfl) rfl ?_
  refine W_seq ?_
  refine W_region ?_
  refine WL_m rfl (ev_alloc zr40) ?_
  rintro _ w2 ⟨rfl, hN2⟩
  have hz2 := hN2.size
  replace hE := hE.trans hN2.ext
  replace hG := hG.ext hN2.ext
  replace hW := hW.ext hN2.ext
  have hB2 : Blk w2 _ _ [_, _, _] := hN2.blk
  refine WL_q rfl (ev_assign rfl) ?_
  refine WL_nil ?_
  refine thenE_n ?_
  refine W_seq ?_
  refine W_region ?_
  refine WL_q rfl (ev_move rfl) ?_
  refine WL_m rfl (ev_call rfl (Index_spec a0 c0 ws wThn _ hW (by omega))) ?_
  rintro _ _ ⟨rfl, rfl⟩
  refine WL_q rfl (ev_assign rfl) ?_
  refine WL_nil ?_
  refine thenE_n ?_
  refine W_seq ?_
  refine W_seq ?_
  refine W_region ?_
  refine WL_q rfl (ev_move rfl) ?_
  refine WL_q rfl (ev_lss rfl rfl) ?_
  refine WL_q rfl (ev_move rfl) ?_
  refine WL_splitv (t := 12) rfl (fun hg11 => ?_) (fun hg11 => ?_)
  · have hp11 := of_decide_eq_true hg11
    refine WL_no rfl rfl hg11 rfl ?_
    refine WL_no rfl rfl hg11 rfl ?_
    refine WL_no rfl rfl hg11 rfl ?_
    refine WL_no rfl rfl hg11 rfl ?_
    refine WL_no rfl rfl hg11 rfl ?_
    refine WL_q rfl (ev_pick_t rfl hg11 rfl) ?_
    refine WL_nil ?_
    refine thenE_n ?_
    refine W_cond_t rfl ?_
    refine W_seq ?_
    refine W_region ?_
    refine WL_q rfl (ev_buildP0 sn40_3 zr40 ) ?_
    refine WL_s (ev_stores sz40 rfl rfl rfl (by simp [Value.oneCell']) hB2 (by simp)) ?_
    rintro _ w3_1 hS3_1
    have hz3_1 := hS3_1.size
    replace hE := hE.sto hS3_1 (by omega)
    replace hG := hG.sto hS3_1 (by omega)
    replace hW := hW.sto hS3_1 (by omega)
    replace hB2 : Blk w3_1 _ _ [_, _, _] := hS3_1.blk
    refine WL_q rfl (ev_assign rfl) ?_
    refine WL_nil ?_
    refine thenE_n ?_
    refine W_ret ?_
    refine thenE_r ?_
    refine retc2 rfl rfl st40 sz40 (cellsB hB2) rfl rfl ?_
    exact ⟨0, none, 0, [], 0, false, rfl, .inr ⟨rfl, clauseI_no fun h => (by have := h.1; omega), rfl⟩, ints_nil, Nat.zero_le _, hE⟩
  · have hp11 := of_decide_eq_false hg11
    refine WL_qg rfl rfl hg11 rfl (ev_move rfl) ?_
    refine WL_qg rfl rfl hg11 rfl (ev_move rfl) ?_
    refine WL_qg rfl rfl hg11 rfl (ev_len Tryz.underlying32 rfl) ?_
    refine WL_qg rfl rfl hg11 rfl (ev_sub rfl rfl (by omega)) ?_
    refine WL_qg rfl rfl hg11 rfl (ev_neq rfl rfl) ?_
    refine WL_q rfl (ev_pick_f rfl hg11 rfl) ?_
    refine WL_nil ?_
    refine thenE_n ?_
    refine W_cond rfl (fun hg17 => ?_) (fun hg17 => ?_)
    · have hp17 := of_decide_eq_true hg17
      refine W_seq ?_
      refine W_region ?_
      refine WL_q rfl (ev_buildP0 sn40_3 zr40 ) ?_
      refine WL_s (ev_stores sz40 rfl rfl rfl (by simp [Value.oneCell']) hB2 (by simp)) ?_
      rintro _ w3_1 hS3_1
      have hz3_1 := hS3_1.size
      replace hE := hE.sto hS3_1 (by omega)
      replace hG := hG.sto hS3_1 (by omega)
      replace hW := hW.sto hS3_1 (by omega)
      replace hB2 : Blk w3_1 _ _ [_, _, _] := hS3_1.blk
      refine WL_q rfl (ev_assign rfl) ?_
      refine WL_nil ?_
      refine thenE_n ?_
      refine W_ret ?_
      refine thenE_r ?_
      refine retc2 rfl rfl st40 sz40 (cellsB hB2) rfl rfl ?_
      exact ⟨0, none, 0, [], 0, false, rfl, .inr ⟨rfl, clauseI_no fun h => (by have := h.2.1; omega), rfl⟩, ints_nil, Nat.zero_le _, hE⟩
    · have hp17 := of_decide_eq_false hg17
      refine W_skip ?_
      refine thenE_n ?_
      refine W_seq ?_
      refine W_drawY (X := Option Addr × Nat × Bool × List Int) (fun x => [(5, .slice x.1 x.2.2.2.length x.2.1), (6, VB x.2.2.1)]) (fun x w' => (x.2.2.1 = true ∧ okNums gI (cwds ws (idxW ws wThn).toNat) ∧ x.2.2.2 = numsOf gI (cwds ws (idxW ws wThn).toNat) ∨ x.2.2.1 = false ∧ ¬ okNums gI (cwds ws (idxW ws wThn).toNat) ∧ x.2.2.2 = []) ∧ OwnH (w.heap.size + 1) w'.heap.size 0 0 w' 3 1 x.1 x.2.2.2.length x.2.1 (x.2.2.2.map VI) ∧ Blk w' w.heap.size 40 [VI 0, .slice none 0 0, VI 0] ∧ Ext w w') 99 0 0 0 0 0 0 0 0 (.h 0 (.h 1 (.h 2 (.h 3 (.h 4 (.h 5 (.h 6 (.a 7 (.a 8 (.a 9 (.h 10 (.h 11 (.h 12 (.h 13 (.h 14 .done))))))))))))))) mixed (by kernel_rfl) rfl (by kernel_rfl) ?_ ?_
      · intro wd4 hEd4 hzd4
        replace hE := hE.trans hEd4
        replace hG := hG.ext hEd4
        replace hW := hW.ext hEd4
        replace hB2 := hB2.ext hEd4
        have ht1 : 1 ≤ (idxW ws wThn) := by omega
        have ht2 : (idxW ws wThn) = (ws.length : Int) - 2 := by omega
        have htk : (ws.take (idxW ws wThn).toNat).length = (idxW ws wThn).toNat := by rw [List.length_take]; omega
        have htd : (ws.drop ((idxW ws wThn) + 1).toNat).length = ws.length - ((idxW ws wThn) + 1).toNat := by rw [List.length_drop]
        have hct := cwds_len (ws := ws) (t := (idxW ws wThn).toNat) (by omega)
        have hcf : [ws.take (idxW ws wThn).toNat, ws.drop ((idxW ws wThn) + 1).toNat].flatten = (cwds ws (idxW ws wThn).toNat) := by simp [cwds]; rw [show ((idxW ws wThn) + 1).toNat = (idxW ws wThn).toNat + 1 by omega]
        have hSd4 := (Rg.refl : Rg 0 0 0 0 wd4 wd4)
        have hUd4 := (Rg.refl : Rg 0 0 0 0 wd4 wd4)
        refine PY_h rfl rfl (fun wq hq => ev_move rfl) ?_
        refine PY_h rfl rfl (fun wq hq => ev_move rfl) ?_
        refine PY_h rfl rfl (fun wq hq => ev_slice_hi Tryz.underlying32 sz9 rfl rfl (by omega) (by omega)) ?_
        refine PY_h rfl rfl (fun wq hq => ev_move rfl) ?_
        refine PY_h rfl rfl (fun wq hq => ev_move rfl) ?_
        refine PY_h rfl rfl (fun wq hq => ev_add rfl rfl (by omega)) ?_
        refine PY_h rfl rfl (fun wq hq => ev_slice_lo Tryz.underlying32 sz9 rfl rfl (by omega) (by omega) (by omega)) ?_
        refine PY_a ?_
        refine PB_m 0 0 0 0 0 0 0 0 rfl rfl (ev_lit2V Tryz.underlying89 el32 rfl rfl rfl rfl) ?_
        rintro _ w28 ⟨rfl, hN28⟩
        have hz28 := hN28.size
        replace hE := hE.trans hN28.ext
        replace hSd4 := hSd4.trans hN28.ext
        replace hUd4 := hUd4.trans hN28.ext
        replace hG := hG.ext hN28.ext
        replace hW := hW.ext hN28.ext
        replace hB2 := hB2.ext hN28.ext
        have hB28 := hN28.blk
        have hhi28 : hi ≤ w28.heap.size := by omega
        refine ⟨fun _ hx => ⟨hSd4.rg hx (by omega), trivial⟩, fun _ hx => ⟨hUd4.rg hx (by omega), trivial⟩, ?_⟩
        have hSd4 := (Rg.refl : Rg 0 0 0 0 w28 w28)
        have hUd4 := (Rg.refl : Rg 0 0 0 0 w28 w28)
        refine PY_a ?_
        refine PB_m 0 0 0 0 0 0 0 0 rfl rfl (ev_call rfl (Concat_spec _ _ [ws.take (idxW ws wThn).toNat, ws.drop ((idxW ws wThn) + 1).toNat] _ (wss2 hB28 (hW.take (idxW ws wThn).toNat) (hW.drop ((idxW ws wThn) + 1).toNat (by omega)) htk.symm htd.symm ⟨hhi28, hB28.lt⟩) (Nat.le_refl _) (by rw [hcf]; omega) (by simp))) ?_
        rintro _ w29 ⟨a29, c29, rfl, hW29, hE29⟩
        have hz29 := hE29.size
        replace hE := hE.trans hE29
        replace hSd4 := hSd4.trans hE29
        replace hUd4 := hUd4.trans hE29
        replace hG := hG.ext hE29
        replace hW := hW.ext hE29
        replace hB2 := hB2.ext hE29
        replace hB28 := hB28.ext hE29
        refine ⟨fun _ hx => ⟨hSd4.rg hx (by omega), trivial⟩, fun _ hx => ⟨hUd4.rg hx (by omega), trivial⟩, ?_⟩
        have hSd4 := (Rg.refl : Rg 0 0 0 0 w29 w29)
        have hUd4 := (Rg.refl : Rg 0 0 0 0 w29 w29)
        refine PY_a ?_
        refine PB_m 0 0 0 0 0 0 0 0 rfl rfl (ev_call rfl (starNumbers_spec a29 c29 [ws.take (idxW ws wThn).toNat, ws.drop ((idxW ws wThn) + 1).toNat].flatten _ hG hW29 (Nat.le_refl _) (by rw [hcf]; omega))) ?_
        rintro _ w30 ⟨a30, c30, q30, xs30, rfl, hq30, hO30, hE30⟩
        have hz30 := hE30.size
        replace hE := hE.trans hE30
        replace hSd4 := hSd4.trans hE30
        replace hUd4 := hUd4.trans hE30
        replace hG := hG.ext hE30
        replace hW := hW.ext hE30
        replace hB2 := hB2.ext hE30
        replace hB28 := hB28.ext hE30
        replace hW29 := hW29.ext hE30
        rw [hcf] at hq30
        refine ⟨fun _ hx => ⟨hSd4.rg hx (by omega), trivial⟩, fun _ hx => ⟨hUd4.rg hx (by omega), trivial⟩, ?_⟩
        have hSd4 := (Rg.refl : Rg 0 0 0 0 w30 w30)
        have hUd4 := (Rg.refl : Rg 0 0 0 0 w30 w30)
        refine PY_h rfl rfl (fun wq hq => ev_move rfl) ?_
        refine PY_h rfl rfl (fun wq hq => ev_extract rfl rfl) ?_
        refine PY_h rfl rfl (fun wq hq => ev_extract rfl rfl) ?_
        refine PY_h rfl rfl (fun wq hq => ev_assign rfl) ?_
        refine PY_h rfl rfl (fun wq hq => ev_assign rfl) ?_
        exact PY_nil 15 (a30, c30, q30, xs30) rfl ⟨rfl, rfl, trivial⟩ rfl ⟨hq30, hO30.up (by omega) (by omega), hB2, hE⟩
      rintro ⟨a5, c5, q5, xs5⟩ wt4 ⟨hq5, hO5, hB2, hE⟩
      dsimp only [List.cons_append, List.nil_append]
      dsimp only at hO5 hq5
      refine thenE_n ?_
      refine W_seq ?_
      refine W_seq ?_
      refine W_region ?_
      refine WL_q rfl (ev_move rfl) ?_
      refine WL_q rfl (ev_not rfl) ?_
      refine WL_nil ?_
      refine thenE_n ?_
      refine W_cond rfl (fun hg34 => ?_) (fun hg34 => ?_)
      · refine W_seq ?_
        refine W_region ?_
        refine WL_q rfl (ev_buildP0 sn40_3 zr40 ) ?_
        refine WL_s (ev_stores sz40 rfl rfl rfl (by simp [Value.oneCell']) hB2 (by simp)) ?_
        rintro _ w6_1 hS6_1
        have hz6_1 := hS6_1.size
        replace hE := hE.sto hS6_1 (by omega)
        replace hO5 := hO5.sto hS6_1 (by omega)
        replace hB2 : Blk w6_1 _ _ [_, _, _] := hS6_1.blk
        refine WL_q rfl (ev_assign rfl) ?_
        refine WL_nil ?_
        refine thenE_n ?_
        refine W_ret ?_
        refine thenE_r ?_
        refine retc2 rfl rfl st40 sz40 (cellsB hB2) rfl rfl ?_
        have hg6 := not_true hg34
        exact ⟨0, none, 0, [], 0, false, rfl, .inr ⟨rfl, clauseI_no fun h => (hq5.elim (fun k => absurd (k.1.symm.trans hg6) (by decide)) fun k => k.2.1 h.2.2), rfl⟩, ints_nil, Nat.zero_le _, hE⟩
      · refine W_skip ?_
        refine thenE_n ?_
        refine W_seq ?_
        refine W_region ?_
        refine WL_q rfl (ev_move rfl) ?_
        have hg6 := not_false hg34
        obtain ⟨hq6, hk5, he5⟩ : q5 = true ∧ okNums gI (cwds ws (idxW ws wThn).toNat) ∧ xs5 = numsOf gI (cwds ws (idxW ws wThn).toNat) := hq5.elim id fun h => absurd (h.1.symm.trans hg6) (by decide)
        have hct := cwds_len (ws := ws) (t := (idxW ws wThn).toNat) (by omega)
        have hl5 : xs5.length = ws.length - 1 := by rw [he5, numsOf_len, hct]
        have hca5 := hO5.cap
        refine WL_q rfl (ev_len Tryz.underlying24 rfl) ?_
        refine WL_q rfl (ev_sub rfl rfl (by omega)) ?_
        refine WL_q rfl (ev_assign rfl) ?_
        refine WL_nil ?_
        refine thenE_n ?_
        refine W_seq ?_
        refine W_drawY (X := Unit) (fun x => [(3, VB true)]) (fun x w' => Blk w' w.heap.size 40 [VI (xs5[0]'(by omega)), .slice (if c5 = 1 then a5 else a5.map (·.add (1 * 1))) (((xs5.length : Int) - 1).toNat - Int.toNat 1) (c5 - 1), VI (xs5[((xs5.length : Int) - 1).toNat]'(by omega))] ∧ OwnH (w.heap.size + 1) w'.heap.size 0 0 w' 3 1 a5 xs5.length c5 (xs5.map VI) ∧ Ext w w') 11 0 0 0 0 w.heap.size (w.heap.size + 1) 0 0 (.q 0 (.q 1 (.q 2 (.q 3 (.q 4 (.q 5 (.q 6 (.q 7 (.q 8 (.q 9 (.q 10 (.z 11 (.h 12 .done))))))))))))) mixed (by kernel_rfl) rfl (by kernel_rfl) ?_ ?_
        · intro wd8 hEd8 hzd8
          replace hE := hE.trans hEd8
          replace hO5 := hO5.ext hEd8
          replace hB2 := hB2.ext hEd8
          have hSd8 := (Rg.refl : Rg 0 0 0 0 wd8 wd8)
          have hUd8 := (Rg.refl : Rg w.heap.size (w.heap.size + 1) 0 0 wd8 wd8)
          refine PY_q rfl rfl (fun wq hq => ev_move rfl) ?_
          refine PY_q rfl rfl (fun wq hq => ev_indexAddr Tryz.underlying24 sz3 rfl rfl ((ownt_i hO5).isSome (by omega)) (by omega) (by omega)) ?_
          refine PY_q rfl rfl (fun wq hq => ev_load one3 rfl (((ownt_i hO5).rg hq.1 (by omega)).cellJ (i := 0) (j := Int.toNat ((0 : Nat) : Int)) (by omega) (by omega))) ?_
          refine PY_q rfl rfl (fun wq hq => ev_move rfl) ?_
          refine PY_q rfl rfl (fun wq hq => ev_move rfl) ?_
          refine PY_q rfl rfl (fun wq hq => ev_slice_lohi Tryz.underlying24 sz3 rfl rfl rfl (by omega) (by omega) (by omega)) ?_
          refine PY_q rfl rfl (fun wq hq => ev_move rfl) ?_
          refine PY_q rfl rfl (fun wq hq => ev_move rfl) ?_
          refine PY_q rfl rfl (fun wq hq => ev_indexAddr Tryz.underlying24 sz3 rfl rfl ((ownt_i hO5).isSome (by omega)) (by omega) (by omega)) ?_
          refine PY_q rfl rfl (fun wq hq => ev_load one3 rfl (((ownt_i hO5).rg hq.1 (by omega)).cellJ (i := (((xs5.length : Int) - 1)).toNat) (j := (((xs5.length : Int) - 1)).toNat) (by omega) (by omega))) ?_
          refine PY_q rfl rfl (fun wq hq => ev_build3 sn40_3 rfl rfl rfl rfl rfl rfl) ?_
          refine PY_z ?_
          refine PB_s w.heap.size (w.heap.size + 1) 0 0 w.heap.size (w.heap.size + 1) 0 0 rfl (ev_stores sz40 rfl rfl rfl (by simp [Value.oneCell']) hB2 (by simp)) ?_
          rintro _ w8_11 hS8_11
          have hz8_11 := hS8_11.size
          replace hE := hE.sto hS8_11 (by omega)
          replace hUd8 := hUd8.sto hS8_11 (by omega)
          replace hO5 := hO5.sto hS8_11 (by omega)
          replace hB2 : Blk w8_11 _ _ [_, _, _] := hS8_11.blk
          refine ⟨fun _ _ => trivial, fun _ hx => ⟨hUd8.rg hx (by omega), trivial⟩, ?_⟩
          have hSd8 := (Rg.refl : Rg w.heap.size (w.heap.size + 1) 0 0 w8_11 w8_11)
          have hUd8 := (Rg.refl : Rg w.heap.size (w.heap.size + 1) 0 0 w8_11 w8_11)
          refine PY_h rfl rfl (fun wq hq => ev_assign rfl) ?_
          exact PY_nil 12 () rfl ⟨rfl, trivial⟩ rfl ⟨hB2, hO5.up (by omega) (by omega), hE⟩
        rintro _ wt8 ⟨hB2, hO5, hE⟩
        dsimp only [List.cons_append, List.nil_append]
        refine thenE_n ?_
        refine W_ret ?_
        refine retc2 rfl rfl st40 sz40 (cellsB hB2) rfl rfl ?_
        have hcl := cl_in (ns := xs5) (by omega)
        have hin := ints_cut (ownt_i hO5) 1 (xs5.length - 2) (by omega)
        refine ⟨(clOf xs5).1, _, _, (clOf xs5).2.1, (clOf xs5).2.2, true, ?_, .inl ⟨rfl, ?_⟩, hin.mono (by omega) (Nat.le_refl _), by omega, hE⟩
        · rw [hcl, cl_fst (by omega), cl_lst (by omega), show xs5.length - 2 = (((xs5.length : Int) - 1).toNat - Int.toNat 1) by omega]
        · rw [he5]; exact clauseI_yes (by omega) (by omega) hk5

theorem starNumbers_n {B lo hi n : Nat} (a0 : Option Addr) (c0 : Nat) (ws : List (List UInt8)) (w : World) (e : n = ws.length) (hG : LibB B w) (hW : WS lo hi w a0 c0 ws) (hhi : hi ≤ w.heap.size) (hn : ws.length ≤ 1048577) : Fn Tryz.prog 35 #[.slice a0 n c0] w (fun o9 w' => ∃ a c q xs, o9 = .tuple #[.slice a xs.length c, VB q] ∧ (q = true ∧ okNums gI ws ∧ xs = numsOf gI ws ∨ q = false ∧ ¬ okNums gI ws ∧ xs = []) ∧ OwnH w.heap.size w'.heap.size 0 0 w' 3 1 a xs.length c (xs.map VI) ∧ Ext w w') := by subst e; exact starNumbers_spec a0 c0 ws w hG hW hhi hn
theorem readClause_n {B lo hi n : Nat} (a0 : Option Addr) (c0 : Nat) (ws : List (List UInt8)) (w : World) (e : n = ws.length) (hG : LibB B w) (hW : WS lo hi w a0 c0 ws) (hhi : hi ≤ w.heap.size) (hn : ws.length ≤ 1048577) : Fn Tryz.prog 33 #[.slice a0 n c0] w (fun o9 w' => ∃ x a c l y q, o9 = .tuple #[.agg #[VI x, .slice a l.length c, VI y], VB q] ∧ (q = true ∧ clauseI ws = some (x, l, y) ∨ q = false ∧ clauseI ws = none ∧ l = []) ∧ Ints w.heap.size w'.heap.size w' a c l ∧ l.length ≤ ws.length ∧ Ext w w') := by subst e; exact readClause_spec a0 c0 ws w hG hW hhi hn

end Go.Proofs.YtdpdjbfjjlpfgaaGreatDoor
