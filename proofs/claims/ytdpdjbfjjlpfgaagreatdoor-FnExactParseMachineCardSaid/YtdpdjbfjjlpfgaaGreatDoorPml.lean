/- impl.machineLine: a line does to the machine in memory what lineI says. -/
import Derived.Test.YtdpdjbfjjlpfgaaGreatDoorPhold
import Derived.Test.YtdpdjbfjjlpfgaaGreatDoorPcl
import Derived.Test.YtdpdjbfjjlpfgaaGreatDoorPth3
namespace Go.Proofs.YtdpdjbfjjlpfgaaGreatDoor
open Go Go.RowKit

theorem wH_at {l : List UInt8} (h : 0 < (spl 32 l).length) : (spl 32 l)[0] = wH l := (headD_eq h).symm
theorem WS.hd {lo hi c : Nat} {w : World} {a : Option Addr} {l : List UInt8} (h : WS lo hi w a c (spl 32 l)) : w.cell? ⟨blkOf a, offOf a + 0 * 1, none⟩ = some (.string (bs (wH l))) := by
  rw [← wH_at spl_pos]; exact h.cell spl_pos
theorem wT_len (l : List UInt8) : (spl 32 l).length - Int.toNat 1 = (wT l).length := by unfold wT; rw [List.length_drop]; rfl
section
variable {P : Program} {L : Env} {ty : TypeId} {w : World} {x : Operand}
theorem ev_nilCheck {b o : Nat} (hx : ev L x = some (ptr b o)) : EvR P L (.nilCheck x) ty w (ptr b o) := by
  intro ρ hρ d p f g
  simp [execOp, hρ x _ hx]
end
theorem WS.tl {lo hi c : Nat} {w : World} {a : Option Addr} {l : List UInt8} (h : WS lo hi w a c (spl 32 l)) : WS lo hi w (if c = Int.toNat 1 then a else a.map (·.add (Int.toNat 1 * 1))) (c - Int.toNat 1) (wT l) := h.drop 1 spl_pos

set_option maxRecDepth 100000 in
theorem machineLine_spec {B bm r : Nat} (k : Nat) (a1 : Option Addr) (c1 : Nat) (a2 : Option Addr) (c2 : Nat) (a3 : Option Addr) (c3 : Nat) (a4 : Option Addr) (c4 : Nat) (M : Mach) (l : List UInt8) (w : World) (hG : LibB B w) (hBB : B ≤ bm) (hB : Blk w bm 26 [VI M.deg, VI M.states, VI M.msgs, .slice a1 M.start.length c1, .slice a2 M.send.length c2, .slice a3 M.clauses.length c3, .slice a4 M.output.length c4]) (hM : HM pIntO (bm + 1) r w ⟨a1, c1, a2, c2, a3, c3, a4, c4⟩ M) (hr : bm + 1 ≤ r) (hl : l.length ≤ 1048576) (ht : totM M ≤ 1048576) :
    Fn Tryz.prog 17 #[ptr bm 0, .string (bs l)] w (fun o9 w' => ∃ q, o9 = VB q ∧ Lo bm w w' ∧ (q = true ∧ (∃ h' M', lineI k M l = some M' ∧ Blk w' bm 26 (mCells h' M') ∧ HM pIntO (bm + 1) w'.heap.size w' h' M') ∨ q = false ∧ lineI k M l = none)) := by
  have hrs := hM.rs
  have hX : Lo bm w w := Lo.refl (by omega)
  have hsl := spl_len (c := 32) (l := l)
  have hsp := spl_pos (c := 32) (l := l)
  have hwt := wT_len l
  have hq1 := totL_len M.start
  have hq2 := totL_len M.send
  have hq3 := totC_len M.clauses
  have hm9 : totM M = totL M.start + totL M.send + totC M.clauses + M.output.length := rfl
  refine Fn_of Tryz.func17 rfl rfl (by kernel_rfl) rfl ?_
  refine W_seq ?_
  refine W_region ?_
  refine WL_q rfl (ev_assign rfl) ?_
  refine WL_nil ?_
  refine thenE_n ?_
  refine W_seq ?_
  refine W_region ?_
  refine WL_q rfl (ev_move rfl) ?_
  refine WL_m rfl (ev_call rfl (Split_spec 32 l _ hG hl)) ?_
  rintro _ w11 ⟨a11, rfl, hW11, hE11⟩
  have hz11 := hE11.size
  replace hX := hX.trans hE11
  replace hG := hG.ext hE11
  replace hB := hB.ext hE11
  replace hM := hM.ext hE11
  refine WL_q rfl (ev_assign rfl) ?_
  refine WL_nil ?_
  refine thenE_n ?_
  refine W_seq ?_
  refine W_seq ?_
  refine W_region ?_
  refine WL_q rfl (ev_move rfl) ?_
  refine WL_q rfl (ev_indexAddr Tryz.underlying32 sz9 rfl rfl (hW11.isSome (by omega)) (by omega) (by omega)) ?_
  refine WL_q rfl (ev_load one9 rfl (hW11.hd)) ?_
  refine WL_q rfl (ev_eql_str (b := [119, 104, 101, 110]) rfl rfl) ?_
  refine WL_nil ?_
  refine thenE_n ?_
  refine W_cond rfl (fun hg15 => ?_) (fun hg15 => ?_)
  · have hp15 := of_decide_eq_true hg15
    refine W_seq ?_
    refine W_region ?_
    refine WL_q rfl (ev_move rfl) ?_
    refine WL_q rfl (ev_slice_lo Tryz.underlying32 sz9 rfl rfl (by omega) (by omega) (by omega)) ?_
    refine WL_m rfl (ev_call rfl (readClause_n _ _ (wT l) _ hwt hG hW11.tl (Nat.le_refl _) (by omega))) ?_
    rintro _ w19 ⟨x3, b3, d3, l3, y3, q3, rfl, hq3c, hi3, hl3, hE19⟩
    have hz19 := hE19.size
    replace hX := hX.trans hE19
    replace hG := hG.ext hE19
    replace hB := hB.ext hE19
    replace hM := hM.ext hE19
    replace hW11 := hW11.ext hE19
    refine WL_q rfl (ev_move rfl) ?_
    refine WL_q rfl (ev_extract rfl rfl) ?_
    refine WL_q rfl (ev_extract rfl rfl) ?_
    refine WL_m rfl (ev_alloc zr40) ?_
    rintro _ w6 ⟨rfl, hN6⟩
    have hz6 := hN6.size
    replace hX := hX.trans hN6.ext
    replace hG := hG.ext hN6.ext
    replace hB := hB.ext hN6.ext
    replace hM := hM.ext hN6.ext
    replace hW11 := hW11.ext hN6.ext
    replace hi3 := hi3.ext hN6.ext
    have hB6 : Blk w6 _ _ [_, _, _] := hN6.blk
    refine WL_s (ev_stores sz40 rfl rfl rfl (by simp [Value.oneCell']) hB6 (by simp)) ?_
    rintro _ w3_7 hS3_7
    have hz3_7 := hS3_7.size
    replace hX := hX.sto hS3_7 (by omega)
    replace hG := hG.sto hS3_7 (by omega)
    replace hB := hB.sto hS3_7 (by omega)
    replace hM := hM.sto hS3_7 (by omega)
    replace hW11 := hW11.sto hS3_7 (by omega)
    replace hi3 := hi3.sto hS3_7 (by omega)
    replace hB6 : Blk w3_7 _ _ [_, _, _] := hS3_7.blk
    refine WL_q rfl (ev_assign rfl) ?_
    refine WL_nil ?_
    refine thenE_n ?_
    refine W_seq ?_
    refine W_region ?_
    refine WL_q rfl (ev_fieldAddr fo40_1 rfl) ?_
    refine WL_q rfl (ev_load one24 rfl (hB6.cell rfl)) ?_
    refine WL_m rfl (ev_call rfl (Clone_int _ _ l3 _ hi3 (by omega) (by omega))) ?_
    rintro _ w24 ⟨a24, c24, rfl, hO24, hE24⟩
    have hz24 := hE24.size
    replace hX := hX.trans hE24
    replace hG := hG.ext hE24
    replace hB := hB.ext hE24
    replace hM := hM.ext hE24
    replace hW11 := hW11.ext hE24
    replace hi3 := hi3.ext hE24
    replace hB6 := hB6.ext hE24
    replace hO24 := hO24.h
    refine WL_q rfl (ev_fieldAddr fo40_1 rfl) ?_
    refine WL_s (ev_store sz24 rfl rfl rfl hB6 (by simp)) ?_
    rintro _ w4_4 hS4_4
    have hz4_4 := hS4_4.size
    replace hX := hX.sto hS4_4 (by omega)
    replace hG := hG.sto hS4_4 (by omega)
    replace hB := hB.sto hS4_4 (by omega)
    replace hM := hM.sto hS4_4 (by omega)
    replace hW11 := hW11.sto hS4_4 (by omega)
    replace hi3 := hi3.sto hS4_4 (by omega)
    replace hO24 := hO24.sto hS4_4 (by omega)
    replace hB6 : Blk w4_4 _ _ [_, _, _] := hS4_4.blk
    refine WL_nil ?_
    refine thenE_n ?_
    refine W_seq ?_
    refine W_drawY (X := MA) (fun x => []) (fun x w' => Blk w' bm 26 (mCells x (addCl M (x3, l3, y3))) ∧ HM pIntO (bm + 1) w'.heap.size w' x (addCl M (x3, l3, y3)) ∧ Lo bm w w') 10 (bm + 1) r 0 0 bm r 0 0 (.q 0 (.q 1 (.q 2 (.q 3 (.q 4 (.q 5 (.a 6 (.a 7 (.h 8 (.q 9 (.z 10 .done))))))))))) mixed (by kernel_rfl) rfl (by kernel_rfl) ?_ ?_
    · intro wd5 hEd5 hzd5
      replace hX := hX.trans hEd5
      replace hG := hG.ext hEd5
      replace hB := hB.ext hEd5
      replace hM := hM.ext hEd5
      replace hW11 := hW11.ext hEd5
      replace hi3 := hi3.ext hEd5
      replace hB6 := hB6.ext hEd5
      replace hO24 := hO24.ext hEd5
      have hSd5 := (Rg.refl : Rg (bm + 1) r 0 0 wd5 wd5)
      have hUd5 := (Rg.refl : Rg bm r 0 0 wd5 wd5)
      refine PY_q rfl rfl (fun wq hq => ev_move rfl) ?_
      refine PY_q rfl rfl (fun wq hq => ev_move rfl) ?_
      refine PY_q rfl rfl (fun wq hq => ev_nilCheck rfl) ?_
      refine PY_q rfl rfl (fun wq hq => ev_fieldAddr fo26_5 rfl) ?_
      refine PY_q rfl rfl (fun wq hq => ev_load one23 rfl ((hB.rg hq.1 (by omega)).cell rfl)) ?_
      refine PY_q rfl rfl (fun wq hq => ev_loads st40 sz40 rfl (cellsB (hB6.rg hq.1 (by omega))) rfl) ?_
      refine PY_a ?_
      refine PB_m (bm + 1) r 0 0 bm r 0 0 rfl rfl (ev_lit1 Tryz.underlying23 el40 (by decide) (by decide) rfl rfl) ?_
      rintro _ w32 ⟨rfl, hN32⟩
      have hz32 := hN32.size
      replace hX := hX.trans hN32.ext
      replace hSd5 := hSd5.trans hN32.ext
      replace hUd5 := hUd5.trans hN32.ext
      replace hG := hG.ext hN32.ext
      replace hB := hB.ext hN32.ext
      replace hM := hM.ext hN32.ext
      replace hW11 := hW11.ext hN32.ext
      replace hi3 := hi3.ext hN32.ext
      replace hB6 := hB6.ext hN32.ext
      replace hO24 := hO24.ext hN32.ext
      have hB32 := hN32.blk
      refine ⟨fun _ hx => ⟨hSd5.rg hx (by omega), trivial⟩, fun _ hx => ⟨hUd5.rg hx (by omega), trivial⟩, ?_⟩
      have hSd5 := (Rg.refl : Rg (bm + 1) r 0 0 w32 w32)
      have hUd5 := (Rg.refl : Rg bm r 0 0 w32 w32)
      refine PY_a ?_
      obtain ⟨v1, v2, v3, hV⟩ := hM
      have hP33 := hV.out3.1
      have hT33 := hV.out3.2
      refine PB_m (bm + 1) r 0 0 bm r 0 0 rfl rfl (ev_append Tryz.underlying23 el40 rfl (by decide) rfl rfl hP33 (SAt.of_blk (cs := [_, _, _]) (ds := []) hB32) rfl (by simp [Value.oneCell']) (by omega) (by unfold maxLen; omega) (by omega)) ?_
      rintro _ w33 ⟨a33, c33, rfl, hO33, hK33, hQ33⟩
      have hz33 := hK33.size
      replace hX := hX.app hK33 (fun q hq => by have h1 := (hP33.block q hq).1; have h2 := (hT33 q hq).1; omega)
      replace hSd5 := hSd5.app hK33 (fun q hq => by have h1 := (hP33.block q hq).1; have h2 := (hT33 q hq).1; omega)
      replace hUd5 := hUd5.app hK33 (fun q hq => by have h1 := (hP33.block q hq).1; have h2 := (hT33 q hq).1; omega)
      replace hG := hG.app hK33 (hP33) (by omega)
      replace hB := hB.app hK33 (hP33) (by omega)
      have hP33 := hO33
      have hM := hV.addCl (y := (x3, l3, y3)) ⟨hO24.1.mono (Nat.zero_le _), fun b hb => by obtain ⟨q, hq, rfl⟩ := map_blk hb; have := hO24.1.block q hq; omega⟩ ⟨by omega, Nat.le_refl _, by omega⟩ hK33 hP33 hQ33
      refine ⟨fun _ hx => ⟨hSd5.rg hx (by omega), trivial⟩, fun _ hx => ⟨hUd5.rg hx (by omega), trivial⟩, ?_⟩
      have hSd5 := (Rg.refl : Rg (bm + 1) r 0 0 w33 w33)
      have hUd5 := (Rg.refl : Rg bm r 0 0 w33 w33)
      refine PY_h rfl rfl (fun wq hq => ev_nilCheck rfl) ?_
      refine PY_q rfl rfl (fun wq hq => ev_fieldAddr fo26_5 rfl) ?_
      refine PY_z ?_
      refine PB_s bm r 0 0 bm r 0 0 rfl (ev_store sz23 rfl rfl rfl hB (by simp)) ?_
      rintro _ w5_10 hS5_10
      have hz5_10 := hS5_10.size
      replace hX := hX.sto hS5_10 (by omega)
      replace hUd5 := hUd5.sto hS5_10 (by omega)
      replace hG := hG.sto hS5_10 (by omega)
      replace hM := hM.sto hS5_10 (by omega)
      replace hB := hS5_10.blk
      refine ⟨fun _ _ => trivial, fun _ hx => ⟨hUd5.rg hx (by omega), trivial⟩, ?_⟩
      have hSd5 := (Rg.refl : Rg bm r 0 0 w5_10 w5_10)
      have hUd5 := (Rg.refl : Rg bm r 0 0 w5_10 w5_10)
      exact PY_nil 10 ⟨a1, c1, a2, c2, a33, c33, a4, c4⟩ rfl trivial rfl ⟨by simpa [mCells, addCl] using hB, hM.up (Nat.le_refl _) (by omega) (by omega), hX⟩
    rintro h5 wt5 ⟨hB, hM, hX⟩
    dsimp only [List.cons_append, List.nil_append]
    refine thenE_n ?_
    refine W_seq ?_
    refine W_region ?_
    refine WL_q rfl (ev_move rfl) ?_
    refine WL_q rfl (ev_assign rfl) ?_
    refine WL_nil ?_
    refine thenE_n ?_
    refine W_ret ?_
    refine thenE_r ?_
    refine ret1 rfl rfl ?_
    first | (exact ⟨q3, rfl, hX, hq3c.elim (fun e => .inl ⟨e.1, h5, _, lineI_when hp15 e.2, hB, hM⟩) fun e => .inr ⟨e.1, lineI_when hp15 e.2.1⟩⟩) | (exact ⟨false, rfl, hX, .inr ⟨rfl, lineI_bad hp15 (hq40.elim (fun e => absurd (e.1.symm.trans hg42) (by decide)) fun e => e.2.1)⟩⟩) | (have e0 := getD_eq (z := (0 : Int)) (show 0 < xs40.length by omega); have e1 := getD_eq (z := (0 : Int)) (show 1 < xs40.length by omega); have e2 := getD_eq (z := (0 : Int)) (show 2 < xs40.length by omega); exact ⟨true, rfl, hX, .inl ⟨rfl, ⟨a1, c1, a2, c2, a3, c3, a81, c81⟩, hdM M xs40 (outI (xs40.getD 1 0)), lineI_mach hp15 hok hxs hp49 (by omega), by simp only [hdM, mCells, outI, e0, e1, e2]; exact hB, by simp only [hdM, outI, e0, e1, e2]; exact hM.up (Nat.le_refl _) (by omega) (by omega)⟩⟩) | (exact ⟨true, rfl, hX, .inl ⟨rfl, ⟨a96, c96, a2, c2, a3, c3, a4, c4⟩, addSt M xs40, lineI_start hp15 hok hxs (by first | exact fun q => hp49 q.1 | exact fun q => hp53 (by omega)) hp88, by simpa [mCells, addSt] using hB, hM.up (Nat.le_refl _) (by omega) (by omega)⟩⟩) | (exact ⟨true, rfl, hX, .inl ⟨rfl, ⟨a1, c1, a111, c111, a3, c3, a4, c4⟩, addSe M xs40, lineI_send hp15 hok hxs (by first | exact fun q => hp49 q.1 | exact fun q => hp53 (by omega)) hp88 hp103, by simpa [mCells, addSe] using hB, hM.up (Nat.le_refl _) (by omega) (by omega)⟩⟩) | (have e0 := getD_eq (z := (0 : Int)) (show 0 < xs40.length by omega); have e1 := getD_eq (z := (0 : Int)) (show 1 < xs40.length by omega); exact ⟨true, rfl, hX, .inl ⟨rfl, _, _, (lineI_give hp15 hok hxs (by first | exact fun q => hp49 q.1 | exact fun q => hp53 (by omega)) hp88 hp103 ⟨hp118, by omega, by omega, by omega⟩).trans (by rw [e0, e1]), hB, hM⟩⟩) | (exact ⟨false, rfl, hX, .inr ⟨rfl, lineI_none hp15 hok hxs (by first | exact fun q => hp49 q.1 | exact fun q => hp53 (by omega)) hp88 hp103 (by first | exact fun q => hp118 q.1 | exact fun q => hp122 (by omega) | exact fun q => by (have e0 := getD_eq (z := (0 : Int)) (show 0 < xs40.length by omega); have := q.2.2; omega))⟩⟩)
  · have hp15 := of_decide_eq_false hg15
    refine W_skip ?_
    refine thenE_n ?_
    refine W_seq ?_
    refine W_region ?_
    refine WL_q rfl (ev_move rfl) ?_
    refine WL_q rfl (ev_slice_lo Tryz.underlying32 sz9 rfl rfl (by omega) (by omega) (by omega)) ?_
    refine WL_m rfl (ev_call rfl (starNumbers_n _ _ (wT l) _ hwt hG hW11.tl (Nat.le_refl _) (by omega))) ?_
    rintro _ w40 ⟨a40, c40, q40, xs40, rfl, hq40, hO40, hE40⟩
    have hz40 := hE40.size
    replace hX := hX.trans hE40
    replace hG := hG.ext hE40
    replace hB := hB.ext hE40
    replace hM := hM.ext hE40
    replace hW11 := hW11.ext hE40
    refine WL_q rfl (ev_move rfl) ?_
    refine WL_q rfl (ev_extract rfl rfl) ?_
    refine WL_q rfl (ev_extract rfl rfl) ?_
    refine WL_q rfl (ev_assign rfl) ?_
    refine WL_q rfl (ev_assign rfl) ?_
    refine WL_nil ?_
    refine thenE_n ?_
    refine W_seq ?_
    refine W_seq ?_
    refine W_region ?_
    refine WL_q rfl (ev_move rfl) ?_
    refine WL_q rfl (ev_not rfl) ?_
    refine WL_nil ?_
    refine thenE_n ?_
    refine W_cond rfl (fun hg44 => ?_) (fun hg44 => ?_)
    · have hg42 := not_true hg44
      refine W_seq ?_
      refine W_region ?_
      refine WL_q rfl (ev_assign rfl) ?_
      refine WL_nil ?_
      refine thenE_n ?_
      refine W_ret ?_
      refine thenE_r ?_
      refine ret1 rfl rfl ?_
      first | (exact ⟨q3, rfl, hX, hq3c.elim (fun e => .inl ⟨e.1, h5, _, lineI_when hp15 e.2, hB, hM⟩) fun e => .inr ⟨e.1, lineI_when hp15 e.2.1⟩⟩) | (exact ⟨false, rfl, hX, .inr ⟨rfl, lineI_bad hp15 (hq40.elim (fun e => absurd (e.1.symm.trans hg42) (by decide)) fun e => e.2.1)⟩⟩) | (have e0 := getD_eq (z := (0 : Int)) (show 0 < xs40.length by omega); have e1 := getD_eq (z := (0 : Int)) (show 1 < xs40.length by omega); have e2 := getD_eq (z := (0 : Int)) (show 2 < xs40.length by omega); exact ⟨true, rfl, hX, .inl ⟨rfl, ⟨a1, c1, a2, c2, a3, c3, a81, c81⟩, hdM M xs40 (outI (xs40.getD 1 0)), lineI_mach hp15 hok hxs hp49 (by omega), by simp only [hdM, mCells, outI, e0, e1, e2]; exact hB, by simp only [hdM, outI, e0, e1, e2]; exact hM.up (Nat.le_refl _) (by omega) (by omega)⟩⟩) | (exact ⟨true, rfl, hX, .inl ⟨rfl, ⟨a96, c96, a2, c2, a3, c3, a4, c4⟩, addSt M xs40, lineI_start hp15 hok hxs (by first | exact fun q => hp49 q.1 | exact fun q => hp53 (by omega)) hp88, by simpa [mCells, addSt] using hB, hM.up (Nat.le_refl _) (by omega) (by omega)⟩⟩) | (exact ⟨true, rfl, hX, .inl ⟨rfl, ⟨a1, c1, a111, c111, a3, c3, a4, c4⟩, addSe M xs40, lineI_send hp15 hok hxs (by first | exact fun q => hp49 q.1 | exact fun q => hp53 (by omega)) hp88 hp103, by simpa [mCells, addSe] using hB, hM.up (Nat.le_refl _) (by omega) (by omega)⟩⟩) | (have e0 := getD_eq (z := (0 : Int)) (show 0 < xs40.length by omega); have e1 := getD_eq (z := (0 : Int)) (show 1 < xs40.length by omega); exact ⟨true, rfl, hX, .inl ⟨rfl, _, _, (lineI_give hp15 hok hxs (by first | exact fun q => hp49 q.1 | exact fun q => hp53 (by omega)) hp88 hp103 ⟨hp118, by omega, by omega, by omega⟩).trans (by rw [e0, e1]), hB, hM⟩⟩) | (exact ⟨false, rfl, hX, .inr ⟨rfl, lineI_none hp15 hok hxs (by first | exact fun q => hp49 q.1 | exact fun q => hp53 (by omega)) hp88 hp103 (by first | exact fun q => hp118 q.1 | exact fun q => hp122 (by omega) | exact fun q => by (have e0 := getD_eq (z := (0 : Int)) (show 0 < xs40.length by omega); have := q.2.2; omega))⟩⟩)
    · have hg42 := not_false hg44
      refine W_skip ?_
      refine thenE_n ?_
      refine W_seq ?_
      refine W_block ?_
      refine W_seq ?_
      refine W_region ?_
      obtain ⟨_, hok, hxs⟩ : q40 = true ∧ okNums gI (wT l) ∧ xs40 = numsOf gI (wT l) := hq40.elim id fun e => absurd (e.1.symm.trans hg42) (by decide)
      have hxn : xs40.length = (wT l).length := by rw [hxs, numsOf_len]
      have hcp40 := hO40.cap
      refine WL_q rfl (ev_move rfl) ?_
      refine WL_q rfl (ev_indexAddr Tryz.underlying32 sz9 rfl rfl (hW11.isSome (by omega)) (by omega) (by omega)) ?_
      refine WL_q rfl (ev_load one9 rfl (hW11.hd)) ?_
      refine WL_q rfl (ev_eql_str (b := [109, 97, 99, 104, 105, 110, 101]) rfl rfl) ?_
      refine WL_q rfl (ev_move rfl) ?_
      refine WL_splitv (t := 50) rfl (fun hg49 => ?_) (fun hg49 => ?_)
      · have hp49 := of_decide_eq_true hg49
        refine WL_qg rfl rfl hg49 rfl (ev_move rfl) ?_
        refine WL_qg rfl rfl hg49 rfl (ev_len Tryz.underlying24 rfl) ?_
        refine WL_qg rfl rfl hg49 rfl (ev_eql rfl rfl) ?_
        refine WL_q rfl (ev_pick_t rfl hg49 rfl) ?_
        refine WL_q rfl (ev_assign rfl) ?_
        refine WL_nil ?_
        refine thenE_n ?_
        refine W_cond rfl (fun hg53 => ?_) (fun hg53 => ?_)
        · have hp53 := of_decide_eq_true hg53
          refine W_seq ?_
          refine W_drawY (X := Unit) (fun x => []) (fun x w' => Blk w' bm 26 [VI (xs40[0]'(by omega)), VI (xs40[1]'(by omega)), VI (xs40[2]'(by omega)), .slice a1 M.start.length c1, .slice a2 M.send.length c2, .slice a3 M.clauses.length c3, .slice a4 M.output.length c4] ∧ HM pIntO (bm + 1) r w' ⟨a1, c1, a2, c2, a3, c3, a4, c4⟩ M ∧ Lo bm w w') 99 bm (bm + 1) 0 0 bm (bm + 1) 0 0 (.h 0 (.h 1 (.h 2 (.h 3 (.h 4 (.h 5 (.h 6 (.h 7 (.h 8 (.h 9 (.h 10 (.h 11 (.h 12 (.h 13 (.a 14 (.h 15 (.h 16 (.a 17 (.h 18 (.h 19 (.a 20 .done))))))))))))))))))))) mixed (by kernel_rfl) rfl (by kernel_rfl) ?_ ?_
          · intro wd12 hEd12 hzd12
            replace hX := hX.trans hEd12
            replace hG := hG.ext hEd12
            replace hB := hB.ext hEd12
            replace hM := hM.ext hEd12
            replace hW11 := hW11.ext hEd12
            replace hO40 := hO40.ext hEd12
            have hSd12 := (Rg.refl : Rg bm (bm + 1) 0 0 wd12 wd12)
            have hUd12 := (Rg.refl : Rg bm (bm + 1) 0 0 wd12 wd12)
            refine PY_h rfl rfl (fun wq hq => ev_move rfl) ?_
            refine PY_h rfl rfl (fun wq hq => ev_move rfl) ?_
            refine PY_h rfl rfl (fun wq hq => ev_move rfl) ?_
            refine PY_h rfl rfl (fun wq hq => ev_move rfl) ?_
            refine PY_h rfl rfl (fun wq hq => ev_indexAddr Tryz.underlying24 sz3 rfl rfl ((ownt_i hO40).isSome (by omega)) (by omega) (by omega)) ?_
            refine PY_h rfl rfl (fun wq hq => ev_load one3 rfl (((ownt_i hO40).rg hq.1 (by omega)).cellJ (i := 0) (j := Int.toNat ((0 : Nat) : Int)) (by omega) (by omega))) ?_
            refine PY_h rfl rfl (fun wq hq => ev_move rfl) ?_
            refine PY_h rfl rfl (fun wq hq => ev_indexAddr Tryz.underlying24 sz3 rfl rfl ((ownt_i hO40).isSome (by omega)) (by omega) (by omega)) ?_
            refine PY_h rfl rfl (fun wq hq => ev_load one3 rfl (((ownt_i hO40).rg hq.1 (by omega)).cellJ (i := 1) (j := Int.toNat ((1 : Nat) : Int)) (by omega) (by omega))) ?_
            refine PY_h rfl rfl (fun wq hq => ev_move rfl) ?_
            refine PY_h rfl rfl (fun wq hq => ev_indexAddr Tryz.underlying24 sz3 rfl rfl ((ownt_i hO40).isSome (by omega)) (by omega) (by omega)) ?_
            refine PY_h rfl rfl (fun wq hq => ev_load one3 rfl (((ownt_i hO40).rg hq.1 (by omega)).cellJ (i := 2) (j := Int.toNat ((2 : Nat) : Int)) (by omega) (by omega))) ?_
            refine PY_h rfl rfl (fun wq hq => ev_nilCheck rfl) ?_
            refine PY_h rfl rfl (fun wq hq => ev_fieldAddr fo26_0 rfl) ?_
            refine PY_a ?_
            refine PB_s bm (bm + 1) 0 0 bm (bm + 1) 0 0 rfl (ev_store sz3 rfl rfl rfl hB (by simp)) ?_
            rintro _ w12_14 hS12_14
            have hz12_14 := hS12_14.size
            replace hX := hX.sto hS12_14 (by omega)
            replace hSd12 := hSd12.sto hS12_14 (by omega)
            replace hUd12 := hUd12.sto hS12_14 (by omega)
            replace hG := hG.sto hS12_14 (by omega)
            replace hM := hM.sto hS12_14 (by omega)
            replace hW11 := hW11.sto hS12_14 (by omega)
            replace hO40 := hO40.sto hS12_14 (by omega)
            replace hB := hS12_14.blk
            refine ⟨fun _ hx => ⟨hSd12.rg hx (by omega), trivial⟩, fun _ hx => ⟨hUd12.rg hx (by omega), trivial⟩, ?_⟩
            have hSd12 := (Rg.refl : Rg bm (bm + 1) 0 0 w12_14 w12_14)
            have hUd12 := (Rg.refl : Rg bm (bm + 1) 0 0 w12_14 w12_14)
            refine PY_h rfl rfl (fun wq hq => ev_nilCheck rfl) ?_
            refine PY_h rfl rfl (fun wq hq => ev_fieldAddr fo26_1 rfl) ?_
            refine PY_a ?_
            refine PB_s bm (bm + 1) 0 0 bm (bm + 1) 0 0 rfl (ev_store sz3 rfl rfl rfl hB (by simp)) ?_
            rintro _ w12_17 hS12_17
            have hz12_17 := hS12_17.size
            replace hX := hX.sto hS12_17 (by omega)
            replace hSd12 := hSd12.sto hS12_17 (by omega)
            replace hUd12 := hUd12.sto hS12_17 (by omega)
            replace hG := hG.sto hS12_17 (by omega)
            replace hM := hM.sto hS12_17 (by omega)
            replace hW11 := hW11.sto hS12_17 (by omega)
            replace hO40 := hO40.sto hS12_17 (by omega)
            replace hB := hS12_17.blk
            refine ⟨fun _ hx => ⟨hSd12.rg hx (by omega), trivial⟩, fun _ hx => ⟨hUd12.rg hx (by omega), trivial⟩, ?_⟩
            have hSd12 := (Rg.refl : Rg bm (bm + 1) 0 0 w12_17 w12_17)
            have hUd12 := (Rg.refl : Rg bm (bm + 1) 0 0 w12_17 w12_17)
            refine PY_h rfl rfl (fun wq hq => ev_nilCheck rfl) ?_
            refine PY_h rfl rfl (fun wq hq => ev_fieldAddr fo26_2 rfl) ?_
            refine PY_a ?_
            refine PB_s bm (bm + 1) 0 0 bm (bm + 1) 0 0 rfl (ev_store sz3 rfl rfl rfl hB (by simp)) ?_
            rintro _ w12_20 hS12_20
            have hz12_20 := hS12_20.size
            replace hX := hX.sto hS12_20 (by omega)
            replace hSd12 := hSd12.sto hS12_20 (by omega)
            replace hUd12 := hUd12.sto hS12_20 (by omega)
            replace hG := hG.sto hS12_20 (by omega)
            replace hM := hM.sto hS12_20 (by omega)
            replace hW11 := hW11.sto hS12_20 (by omega)
            replace hO40 := hO40.sto hS12_20 (by omega)
            replace hB := hS12_20.blk
            refine ⟨fun _ hx => ⟨hSd12.rg hx (by omega), trivial⟩, fun _ hx => ⟨hUd12.rg hx (by omega), trivial⟩, ?_⟩
            have hSd12 := (Rg.refl : Rg bm (bm + 1) 0 0 w12_20 w12_20)
            have hUd12 := (Rg.refl : Rg bm (bm + 1) 0 0 w12_20 w12_20)
            exact PY_nil 18 () rfl trivial rfl ⟨hB, hM, hX⟩
          rintro _ wt12 ⟨hB, hM, hX⟩
          dsimp only [List.cons_append, List.nil_append]
          have hz12 := hX.size
          refine thenE_n ?_
          refine W_region ?_
          refine WL_q rfl (ev_move rfl) ?_
          refine WL_m rfl (ev_lit1 Tryz.underlying24 el3 (by decide) (by decide) rfl rfl) ?_
          rintro _ w74 ⟨rfl, hN74⟩
          have hz74 := hN74.size
          replace hX := hX.trans hN74.ext
          replace hB := hB.ext hN74.ext
          replace hM := hM.ext hN74.ext
          have hB74 := hN74.blk
          refine WL_q rfl (ev_move rfl) ?_
          refine WL_q rfl (ev_nilCheck rfl) ?_
          refine WL_q rfl (ev_fieldAddr fo26_1 rfl) ?_
          refine WL_q rfl (ev_load one3 rfl (hB.cell rfl)) ?_
          refine WL_q rfl (ev_max rfl rfl) ?_
          refine WL_q rfl (ev_min rfl rfl) ?_
          refine WL_m rfl (ev_call rfl (Repeat_spec _ _ (-1) (min (max xs40[1] 0) 12) _ (Blk.ints (ys := [-1]) hB74 (by simp)) (by have := hB74.lt; omega) (by omega))) ?_
          rintro _ w81 ⟨a81, c81, rfl, hO81, hE81⟩
          have hz81 := hE81.size
          replace hX := hX.trans hE81
          replace hB := hB.ext hE81
          replace hM := hM.ext hE81
          replace hB74 := hB74.ext hE81
          refine WL_q rfl (ev_nilCheck rfl) ?_
          refine WL_q rfl (ev_fieldAddr fo26_6 rfl) ?_
          refine WL_s (ev_store sz24 rfl rfl rfl hB (by simp)) ?_
          rintro _ w13_11 hS13_11
          have hz13_11 := hS13_11.size
          replace hX := hX.sto hS13_11 (by omega)
          replace hB := hS13_11.blk
          have hM := ((hM.nums xs40[0] xs40[1] xs40[2]).newOut hO81 ⟨by omega, by omega, by omega, by omega⟩).sto hS13_11 (by omega)
          refine WL_nil ?_
          refine blockE_n ?_
          refine thenE_n ?_
          refine W_seq ?_
          refine W_region ?_
          refine WL_q rfl (ev_assign rfl) ?_
          refine WL_nil ?_
          refine thenE_n ?_
          refine W_ret ?_
          refine ret1 rfl rfl ?_
          first | (exact ⟨q3, rfl, hX, hq3c.elim (fun e => .inl ⟨e.1, h5, _, lineI_when hp15 e.2, hB, hM⟩) fun e => .inr ⟨e.1, lineI_when hp15 e.2.1⟩⟩) | (exact ⟨false, rfl, hX, .inr ⟨rfl, lineI_bad hp15 (hq40.elim (fun e => absurd (e.1.symm.trans hg42) (by decide)) fun e => e.2.1)⟩⟩) | (have e0 := getD_eq (z := (0 : Int)) (show 0 < xs40.length by omega); have e1 := getD_eq (z := (0 : Int)) (show 1 < xs40.length by omega); have e2 := getD_eq (z := (0 : Int)) (show 2 < xs40.length by omega); exact ⟨true, rfl, hX, .inl ⟨rfl, ⟨a1, c1, a2, c2, a3, c3, a81, c81⟩, hdM M xs40 (outI (xs40.getD 1 0)), lineI_mach hp15 hok hxs hp49 (by omega), by simp only [hdM, mCells, outI, e0, e1, e2]; exact hB, by simp only [hdM, outI, e0, e1, e2]; exact hM.up (Nat.le_refl _) (by omega) (by omega)⟩⟩) | (exact ⟨true, rfl, hX, .inl ⟨rfl, ⟨a96, c96, a2, c2, a3, c3, a4, c4⟩, addSt M xs40, lineI_start hp15 hok hxs (by first | exact fun q => hp49 q.1 | exact fun q => hp53 (by omega)) hp88, by simpa [mCells, addSt] using hB, hM.up (Nat.le_refl _) (by omega) (by omega)⟩⟩) | (exact ⟨true, rfl, hX, .inl ⟨rfl, ⟨a1, c1, a111, c111, a3, c3, a4, c4⟩, addSe M xs40, lineI_send hp15 hok hxs (by first | exact fun q => hp49 q.1 | exact fun q => hp53 (by omega)) hp88 hp103, by simpa [mCells, addSe] using hB, hM.up (Nat.le_refl _) (by omega) (by omega)⟩⟩) | (have e0 := getD_eq (z := (0 : Int)) (show 0 < xs40.length by omega); have e1 := getD_eq (z := (0 : Int)) (show 1 < xs40.length by omega); exact ⟨true, rfl, hX, .inl ⟨rfl, _, _, (lineI_give hp15 hok hxs (by first | exact fun q => hp49 q.1 | exact fun q => hp53 (by omega)) hp88 hp103 ⟨hp118, by omega, by omega, by omega⟩).trans (by rw [e0, e1]), hB, hM⟩⟩) | (exact ⟨false, rfl, hX, .inr ⟨rfl, lineI_none hp15 hok hxs (by first | exact fun q => hp49 q.1 | exact fun q => hp53 (by omega)) hp88 hp103 (by first | exact fun q => hp118 q.1 | exact fun q => hp122 (by omega) | exact fun q => by (have e0 := getD_eq (z := (0 : Int)) (show 0 < xs40.length by omega); have := q.2.2; omega))⟩⟩)
        · have hp53 := of_decide_eq_false hg53
          refine W_seq ?_
          refine W_region ?_
          refine WL_q rfl (ev_move rfl) ?_
          refine WL_q rfl (ev_indexAddr Tryz.underlying32 sz9 rfl rfl (hW11.isSome (by omega)) (by omega) (by omega)) ?_
          refine WL_q rfl (ev_load one9 rfl (hW11.hd)) ?_
          refine WL_q rfl (ev_eql_str (b := [115, 116, 97, 114, 116]) rfl rfl) ?_
          refine WL_q rfl (ev_assign rfl) ?_
          refine WL_nil ?_
          refine thenE_n ?_
          refine W_cond rfl (fun hg88 => ?_) (fun hg88 => ?_)
          · have hp88 := of_decide_eq_true hg88
            refine W_region ?_
            refine WL_q rfl (ev_move rfl) ?_
            refine WL_q rfl (ev_move rfl) ?_
            refine WL_q rfl (ev_nilCheck rfl) ?_
            refine WL_q rfl (ev_fieldAddr fo26_3 rfl) ?_
            refine WL_q rfl (ev_load one22 rfl (hB.cell rfl)) ?_
            refine WL_q rfl (ev_move rfl) ?_
            refine WL_m rfl (ev_lit1 Tryz.underlying22 el24 (by decide) (by decide) rfl rfl) ?_
            rintro _ w95 ⟨rfl, hN95⟩
            have hz95 := hN95.size
            replace hX := hX.trans hN95.ext
            replace hG := hG.ext hN95.ext
            replace hB := hB.ext hN95.ext
            replace hM := hM.ext hN95.ext
            replace hW11 := hW11.ext hN95.ext
            replace hO40 := hO40.ext hN95.ext
            have hB95 := hN95.blk
            obtain ⟨v1, v2, v3, hV⟩ := hM
            have hP96 := hV.out1.1
            refine WL_m rfl (ev_append Tryz.underlying22 el24 rfl (by decide) rfl rfl hP96 (SAt.of_blk (cs := [_]) (ds := []) hB95) rfl (by simp [Value.oneCell']) (by omega) (by unfold maxLen; omega) (by omega)) ?_
            rintro _ w96 ⟨a96, c96, rfl, hO96, hK96, hQ96⟩
            have hz96 := hK96.size
            replace hX := hX.app hK96 (fun q hq => by have := (hP96.block q hq).1; omega)
            replace hG := hG.app hK96 (hP96) (by omega)
            replace hB := hB.app hK96 (hP96) (by omega)
            have hP96 := hO96
            have hM := hV.addSt hO40 (by omega) hK96 hP96 hQ96
            refine WL_q rfl (ev_nilCheck rfl) ?_
            refine WL_q rfl (ev_fieldAddr fo26_3 rfl) ?_
            refine WL_s (ev_store sz22 rfl rfl rfl hB (by simp)) ?_
            rintro _ w15_10 hS15_10
            have hz15_10 := hS15_10.size
            replace hX := hX.sto hS15_10 (by omega)
            replace hG := hG.sto hS15_10 (by omega)
            replace hM := hM.sto hS15_10 (by omega)
            replace hB := hS15_10.blk
            refine WL_nil ?_
            refine blockE_n ?_
            refine thenE_n ?_
            refine W_seq ?_
            refine W_region ?_
            refine WL_q rfl (ev_assign rfl) ?_
            refine WL_nil ?_
            refine thenE_n ?_
            refine W_ret ?_
            refine ret1 rfl rfl ?_
            first | (exact ⟨q3, rfl, hX, hq3c.elim (fun e => .inl ⟨e.1, h5, _, lineI_when hp15 e.2, hB, hM⟩) fun e => .inr ⟨e.1, lineI_when hp15 e.2.1⟩⟩) | (exact ⟨false, rfl, hX, .inr ⟨rfl, lineI_bad hp15 (hq40.elim (fun e => absurd (e.1.symm.trans hg42) (by decide)) fun e => e.2.1)⟩⟩) | (have e0 := getD_eq (z := (0 : Int)) (show 0 < xs40.length by omega); have e1 := getD_eq (z := (0 : Int)) (show 1 < xs40.length by omega); have e2 := getD_eq (z := (0 : Int)) (show 2 < xs40.length by omega); exact ⟨true, rfl, hX, .inl ⟨rfl, ⟨a1, c1, a2, c2, a3, c3, a81, c81⟩, hdM M xs40 (outI (xs40.getD 1 0)), lineI_mach hp15 hok hxs hp49 (by omega), by simp only [hdM, mCells, outI, e0, e1, e2]; exact hB, by simp only [hdM, outI, e0, e1, e2]; exact hM.up (Nat.le_refl _) (by omega) (by omega)⟩⟩) | (exact ⟨true, rfl, hX, .inl ⟨rfl, ⟨a96, c96, a2, c2, a3, c3, a4, c4⟩, addSt M xs40, lineI_start hp15 hok hxs (by first | exact fun q => hp49 q.1 | exact fun q => hp53 (by omega)) hp88, by simpa [mCells, addSt] using hB, hM.up (Nat.le_refl _) (by omega) (by omega)⟩⟩) | (exact ⟨true, rfl, hX, .inl ⟨rfl, ⟨a1, c1, a111, c111, a3, c3, a4, c4⟩, addSe M xs40, lineI_send hp15 hok hxs (by first | exact fun q => hp49 q.1 | exact fun q => hp53 (by omega)) hp88 hp103, by simpa [mCells, addSe] using hB, hM.up (Nat.le_refl _) (by omega) (by omega)⟩⟩) | (have e0 := getD_eq (z := (0 : Int)) (show 0 < xs40.length by omega); have e1 := getD_eq (z := (0 : Int)) (show 1 < xs40.length by omega); exact ⟨true, rfl, hX, .inl ⟨rfl, _, _, (lineI_give hp15 hok hxs (by first | exact fun q => hp49 q.1 | exact fun q => hp53 (by omega)) hp88 hp103 ⟨hp118, by omega, by omega, by omega⟩).trans (by rw [e0, e1]), hB, hM⟩⟩) | (exact ⟨false, rfl, hX, .inr ⟨rfl, lineI_none hp15 hok hxs (by first | exact fun q => hp49 q.1 | exact fun q => hp53 (by omega)) hp88 hp103 (by first | exact fun q => hp118 q.1 | exact fun q => hp122 (by omega) | exact fun q => by (have e0 := getD_eq (z := (0 : Int)) (show 0 < xs40.length by omega); have := q.2.2; omega))⟩⟩)
          · have hp88 := of_decide_eq_false hg88
            refine W_seq ?_
            refine W_region ?_
            refine WL_q rfl (ev_move rfl) ?_
            refine WL_q rfl (ev_indexAddr Tryz.underlying32 sz9 rfl rfl (hW11.isSome (by omega)) (by omega) (by omega)) ?_
            refine WL_q rfl (ev_load one9 rfl (hW11.hd)) ?_
            refine WL_q rfl (ev_eql_str (b := [115, 101, 110, 100]) rfl rfl) ?_
            refine WL_q rfl (ev_assign rfl) ?_
            refine WL_nil ?_
            refine thenE_n ?_
            refine W_cond rfl (fun hg103 => ?_) (fun hg103 => ?_)
            · have hp103 := of_decide_eq_true hg103
              refine W_region ?_
              refine WL_q rfl (ev_move rfl) ?_
              refine WL_q rfl (ev_move rfl) ?_
              refine WL_q rfl (ev_nilCheck rfl) ?_
              refine WL_q rfl (ev_fieldAddr fo26_4 rfl) ?_
              refine WL_q rfl (ev_load one22 rfl (hB.cell rfl)) ?_
              refine WL_q rfl (ev_move rfl) ?_
              refine WL_m rfl (ev_lit1 Tryz.underlying22 el24 (by decide) (by decide) rfl rfl) ?_
              rintro _ w110 ⟨rfl, hN110⟩
              have hz110 := hN110.size
              replace hX := hX.trans hN110.ext
              replace hG := hG.ext hN110.ext
              replace hB := hB.ext hN110.ext
              replace hM := hM.ext hN110.ext
              replace hW11 := hW11.ext hN110.ext
              replace hO40 := hO40.ext hN110.ext
              have hB110 := hN110.blk
              obtain ⟨v1, v2, v3, hV⟩ := hM
              have hP111 := hV.out2.1
              refine WL_m rfl (ev_append Tryz.underlying22 el24 rfl (by decide) rfl rfl hP111 (SAt.of_blk (cs := [_]) (ds := []) hB110) rfl (by simp [Value.oneCell']) (by omega) (by unfold maxLen; omega) (by omega)) ?_
              rintro _ w111 ⟨a111, c111, rfl, hO111, hK111, hQ111⟩
              have hz111 := hK111.size
              replace hX := hX.app hK111 (fun q hq => by have := (hP111.block q hq).1; omega)
              replace hG := hG.app hK111 (hP111) (by omega)
              replace hB := hB.app hK111 (hP111) (by omega)
              have hP111 := hO111
              have hM := hV.addSe hO40 (by omega) hK111 hP111 hQ111
              refine WL_q rfl (ev_nilCheck rfl) ?_
              refine WL_q rfl (ev_fieldAddr fo26_4 rfl) ?_
              refine WL_s (ev_store sz22 rfl rfl rfl hB (by simp)) ?_
              rintro _ w17_10 hS17_10
              have hz17_10 := hS17_10.size
              replace hX := hX.sto hS17_10 (by omega)
              replace hG := hG.sto hS17_10 (by omega)
              replace hM := hM.sto hS17_10 (by omega)
              replace hB := hS17_10.blk
              refine WL_nil ?_
              refine blockE_n ?_
              refine thenE_n ?_
              refine W_seq ?_
              refine W_region ?_
              refine WL_q rfl (ev_assign rfl) ?_
              refine WL_nil ?_
              refine thenE_n ?_
              refine W_ret ?_
              refine ret1 rfl rfl ?_
              first | (exact ⟨q3, rfl, hX, hq3c.elim (fun e => .inl ⟨e.1, h5, _, lineI_when hp15 e.2, hB, hM⟩) fun e => .inr ⟨e.1, lineI_when hp15 e.2.1⟩⟩) | (exact ⟨false, rfl, hX, .inr ⟨rfl, lineI_bad hp15 (hq40.elim (fun e => absurd (e.1.symm.trans hg42) (by decide)) fun e => e.2.1)⟩⟩) | (have e0 := getD_eq (z := (0 : Int)) (show 0 < xs40.length by omega); have e1 := getD_eq (z := (0 : Int)) (show 1 < xs40.length by omega); have e2 := getD_eq (z := (0 : Int)) (show 2 < xs40.length by omega); exact ⟨true, rfl, hX, .inl ⟨rfl, ⟨a1, c1, a2, c2, a3, c3, a81, c81⟩, hdM M xs40 (outI (xs40.getD 1 0)), lineI_mach hp15 hok hxs hp49 (by omega), by simp only [hdM, mCells, outI, e0, e1, e2]; exact hB, by simp only [hdM, outI, e0, e1, e2]; exact hM.up (Nat.le_refl _) (by omega) (by omega)⟩⟩) | (exact ⟨true, rfl, hX, .inl ⟨rfl, ⟨a96, c96, a2, c2, a3, c3, a4, c4⟩, addSt M xs40, lineI_start hp15 hok hxs (by first | exact fun q => hp49 q.1 | exact fun q => hp53 (by omega)) hp88, by simpa [mCells, addSt] using hB, hM.up (Nat.le_refl _) (by omega) (by omega)⟩⟩) | (exact ⟨true, rfl, hX, .inl ⟨rfl, ⟨a1, c1, a111, c111, a3, c3, a4, c4⟩, addSe M xs40, lineI_send hp15 hok hxs (by first | exact fun q => hp49 q.1 | exact fun q => hp53 (by omega)) hp88 hp103, by simpa [mCells, addSe] using hB, hM.up (Nat.le_refl _) (by omega) (by omega)⟩⟩) | (have e0 := getD_eq (z := (0 : Int)) (show 0 < xs40.length by omega); have e1 := getD_eq (z := (0 : Int)) (show 1 < xs40.length by omega); exact ⟨true, rfl, hX, .inl ⟨rfl, _, _, (lineI_give hp15 hok hxs (by first | exact fun q => hp49 q.1 | exact fun q => hp53 (by omega)) hp88 hp103 ⟨hp118, by omega, by omega, by omega⟩).trans (by rw [e0, e1]), hB, hM⟩⟩) | (exact ⟨false, rfl, hX, .inr ⟨rfl, lineI_none hp15 hok hxs (by first | exact fun q => hp49 q.1 | exact fun q => hp53 (by omega)) hp88 hp103 (by first | exact fun q => hp118 q.1 | exact fun q => hp122 (by omega) | exact fun q => by (have e0 := getD_eq (z := (0 : Int)) (show 0 < xs40.length by omega); have := q.2.2; omega))⟩⟩)
            · have hp103 := of_decide_eq_false hg103
              refine W_seq ?_
              refine W_drawE [(0, true), (1, true), (2, true), (3, true), (4, true), (5, true), (6, true), (7, true), (8, true), (9, true), (10, true), (11, true), (12, true), (13, true), (14, true), (15, true), (16, true), (17, true), (18, true), (19, false), (20, true), (21, true)] mixed (by kernel_rfl) rfl (by kernel_rfl) ?_
              intro wd18 hEd18 hzd18
              replace hX := hX.trans hEd18
              replace hG := hG.ext hEd18
              replace hB := hB.ext hEd18
              replace hM := hM.ext hEd18
              replace hW11 := hW11.ext hEd18
              replace hO40 := hO40.ext hEd18
              have hDd18 := Ext.refl wd18
              refine PW_q rfl rfl (fun wq hq => ev_move rfl) ?_
              refine PW_q rfl rfl (fun wq hq => ev_indexAddr Tryz.underlying32 sz9 rfl rfl (hW11.isSome (by omega)) (by omega) (by omega)) ?_
              refine PW_q rfl rfl (fun wq hq => ev_load one9 rfl (hq.cell (hW11.hd))) ?_
              refine PW_q rfl rfl (fun wq hq => ev_eql_str (b := [103, 105, 118, 101]) rfl rfl) ?_
              refine PW_q rfl rfl (fun wq hq => ev_move rfl) ?_
              refine PW_splitv (t := 119) rfl (fun hg118 => ?_) (fun hg118 => ?_)
              · have hp118 := of_decide_eq_true hg118
                refine PW_qg rfl rfl rfl hg118 rfl (fun wq hq => ev_move rfl) ?_
                refine PW_qg rfl rfl rfl hg118 rfl (fun wq hq => ev_len Tryz.underlying24 rfl) ?_
                refine PW_qg rfl rfl rfl hg118 rfl (fun wq hq => ev_eql rfl rfl) ?_
                refine PW_q rfl rfl (fun wq hq => ev_pick_t rfl hg118 rfl) ?_
                refine PW_q rfl rfl (fun wq hq => ev_move rfl) ?_
                refine PW_splitv (t := 124) rfl (fun hg122 => ?_) (fun hg122 => ?_)
                · have hp122 := of_decide_eq_true hg122
                  refine PW_qg rfl rfl rfl hg122 rfl (fun wq hq => ev_move rfl) ?_
                  refine PW_qg rfl rfl rfl hg122 rfl (fun wq hq => ev_indexAddr Tryz.underlying24 sz3 rfl rfl ((ownt_i hO40).isSome (by omega)) (by omega) (by omega)) ?_
                  have hc127 := (ownt_i hO40).cell (i := 0) (by omega)
                  refine PW_qg rfl rfl rfl hg122 rfl (fun wq hq => ev_load one3 rfl (hq.cell (hc127))) ?_
                  refine PW_qg rfl rfl rfl hg122 rfl (fun wq hq => ev_move rfl) ?_
                  refine PW_qg rfl rfl rfl hg122 rfl (fun wq hq => ev_nilCheck rfl) ?_
                  refine PW_qg rfl rfl rfl hg122 rfl (fun wq hq => ev_fieldAddr fo26_6 rfl) ?_
                  refine PW_qg rfl rfl rfl hg122 rfl (fun wq hq => ev_load one24 rfl (hq.cell (hB.cell rfl))) ?_
                  refine PW_qg rfl rfl rfl hg122 rfl (fun wq hq => ev_len Tryz.underlying24 rfl) ?_
                  refine PW_qg rfl rfl rfl hg122 rfl (fun wq hq => ev_sub rfl rfl (by omega)) ?_
                  refine PW_mg rfl rfl rfl hg122 rfl (ev_call rfl (within_spec _ _ _ _)) ?_
                  rintro _ _ ⟨rfl, rfl⟩
                  refine ⟨hDd18, ?_⟩
                  refine PW_q rfl rfl (fun wq hq => ev_pick_t rfl hg122 rfl) ?_
                  refine PW_q rfl rfl (fun wq hq => ev_assign rfl) ?_
                  replace hG := hG.ext hDd18
                  replace hB := hB.ext hDd18
                  replace hM := hM.ext hDd18
                  replace hW11 := hW11.ext hDd18
                  replace hO40 := hO40.ext hDd18
                  refine PW_nil ?_
                  refine thenE_n ?_
                  refine W_cond rfl (fun hg134 => ?_) (fun hg134 => ?_)
                  · have hp134 := inR_true.1 hg134
                    refine W_drawY (X := Unit) (fun x => []) (fun x w' => Blk w' bm 26 (mCells ⟨a1, c1, a2, c2, a3, c3, a4, c4⟩ (setOut M (xs40[0]'(by omega)) (xs40[1]'(by omega)))) ∧ HM pIntO (bm + 1) w'.heap.size w' ⟨a1, c1, a2, c2, a3, c3, a4, c4⟩ (setOut M (xs40[0]'(by omega)) (xs40[1]'(by omega))) ∧ Lo bm w w') 11 0 0 0 0 (bm + 1) r 0 0 (.q 0 (.q 1 (.q 2 (.q 3 (.q 4 (.q 5 (.q 6 (.q 7 (.q 8 (.q 9 (.q 10 (.z 11 .done)))))))))))) mixed (by kernel_rfl) rfl (by kernel_rfl) ?_ ?_
                    · intro wd19 hEd19 hzd19
                      replace hX := hX.trans hEd19
                      replace hG := hG.ext hEd19
                      replace hB := hB.ext hEd19
                      replace hM := hM.ext hEd19
                      replace hW11 := hW11.ext hEd19
                      replace hO40 := hO40.ext hEd19
                      obtain ⟨g4, rest4, rfl, hg4, hB9, hc4, hm4, hl4, hxl4⟩ := hM.out4.1.blk (by omega)
                      have hgr : g4 < r := (hM.out4.2 _ rfl).1
                      have hM19 := hM
                      have hSd19 := (Rg.refl : Rg 0 0 0 0 wd19 wd19)
                      have hUd19 := (Rg.refl : Rg (bm + 1) r 0 0 wd19 wd19)
                      refine PY_q rfl rfl (fun wq hq => ev_move rfl) ?_
                      refine PY_q rfl rfl (fun wq hq => ev_nilCheck rfl) ?_
                      refine PY_q rfl rfl (fun wq hq => ev_fieldAddr fo26_6 rfl) ?_
                      refine PY_q rfl rfl (fun wq hq => ev_load one24 rfl ((hB.rg hq.1 (by omega)).cell rfl)) ?_
                      refine PY_q rfl rfl (fun wq hq => ev_move rfl) ?_
                      refine PY_q rfl rfl (fun wq hq => ev_indexAddr Tryz.underlying24 sz3 rfl rfl ((ownt_i hO40).isSome (by omega)) (by omega) (by omega)) ?_
                      refine PY_q rfl rfl (fun wq hq => ev_load one3 rfl (((ownt_i hO40).rg hq.1 (by omega)).cellJ (i := 0) (j := Int.toNat ((0 : Nat) : Int)) (by omega) (by omega))) ?_
                      refine PY_q rfl rfl (fun wq hq => ev_move rfl) ?_
                      refine PY_q rfl rfl (fun wq hq => ev_indexAddr Tryz.underlying24 sz3 rfl rfl ((ownt_i hO40).isSome (by omega)) (by omega) (by omega)) ?_
                      refine PY_q rfl rfl (fun wq hq => ev_load one3 rfl (((ownt_i hO40).rg hq.1 (by omega)).cellJ (i := 1) (j := Int.toNat ((1 : Nat) : Int)) (by omega) (by omega))) ?_
                      refine PY_q rfl rfl (fun wq hq => ev_indexAddr Tryz.underlying24 sz3 rfl rfl rfl (by omega) (by omega)) ?_
                      refine PY_z ?_
                      refine PB_s (bm + 1) r 0 0 (bm + 1) r 0 0 rfl (ev_store sz3 rfl rfl rfl hB9 (by simp; omega)) ?_
                      rintro _ w19_11 hS19_11
                      have hz19_11 := hS19_11.size
                      replace hX := hX.sto hS19_11 (by omega)
                      replace hUd19 := hUd19.sto hS19_11 (by omega)
                      replace hG := hG.sto hS19_11 (by omega)
                      replace hB := hB.sto hS19_11 (by omega)
                      replace hB9 := hS19_11.blk
                      have hM := hM19.chOut (hS19_11.keep.mono fun i hi => hi.2 _ rfl) (own_put hg4 hc4 hm4 hl4 (i := (xs40[0]).toNat) (by omega) (by omega) hB9) (fun q hq => .inl ⟨_, rfl, by cases hq; rfl⟩) (by omega)
                      refine ⟨fun _ _ => trivial, fun _ hx => ⟨hUd19.rg hx (by omega), trivial⟩, ?_⟩
                      have hSd19 := (Rg.refl : Rg (bm + 1) r 0 0 w19_11 w19_11)
                      have hUd19 := (Rg.refl : Rg (bm + 1) r 0 0 w19_11 w19_11)
                      exact PY_nil 11 () rfl trivial rfl ⟨by simpa [mCells, setOut] using hB, hM.up (Nat.le_refl _) (by omega) (by omega), hX⟩
                    rintro _ wt19 ⟨hB, hM, hX⟩
                    dsimp only [List.cons_append, List.nil_append]
                    refine blockE_n ?_
                    refine thenE_n ?_
                    refine W_seq ?_
                    refine W_region ?_
                    refine WL_q rfl (ev_assign rfl) ?_
                    refine WL_nil ?_
                    refine thenE_n ?_
                    refine W_ret ?_
                    refine ret1 rfl rfl ?_
                    first | (exact ⟨q3, rfl, hX, hq3c.elim (fun e => .inl ⟨e.1, h5, _, lineI_when hp15 e.2, hB, hM⟩) fun e => .inr ⟨e.1, lineI_when hp15 e.2.1⟩⟩) | (exact ⟨false, rfl, hX, .inr ⟨rfl, lineI_bad hp15 (hq40.elim (fun e => absurd (e.1.symm.trans hg42) (by decide)) fun e => e.2.1)⟩⟩) | (have e0 := getD_eq (z := (0 : Int)) (show 0 < xs40.length by omega); have e1 := getD_eq (z := (0 : Int)) (show 1 < xs40.length by omega); have e2 := getD_eq (z := (0 : Int)) (show 2 < xs40.length by omega); exact ⟨true, rfl, hX, .inl ⟨rfl, ⟨a1, c1, a2, c2, a3, c3, a81, c81⟩, hdM M xs40 (outI (xs40.getD 1 0)), lineI_mach hp15 hok hxs hp49 (by omega), by simp only [hdM, mCells, outI, e0, e1, e2]; exact hB, by simp only [hdM, outI, e0, e1, e2]; exact hM.up (Nat.le_refl _) (by omega) (by omega)⟩⟩) | (exact ⟨true, rfl, hX, .inl ⟨rfl, ⟨a96, c96, a2, c2, a3, c3, a4, c4⟩, addSt M xs40, lineI_start hp15 hok hxs (by first | exact fun q => hp49 q.1 | exact fun q => hp53 (by omega)) hp88, by simpa [mCells, addSt] using hB, hM.up (Nat.le_refl _) (by omega) (by omega)⟩⟩) | (exact ⟨true, rfl, hX, .inl ⟨rfl, ⟨a1, c1, a111, c111, a3, c3, a4, c4⟩, addSe M xs40, lineI_send hp15 hok hxs (by first | exact fun q => hp49 q.1 | exact fun q => hp53 (by omega)) hp88 hp103, by simpa [mCells, addSe] using hB, hM.up (Nat.le_refl _) (by omega) (by omega)⟩⟩) | (have e0 := getD_eq (z := (0 : Int)) (show 0 < xs40.length by omega); have e1 := getD_eq (z := (0 : Int)) (show 1 < xs40.length by omega); exact ⟨true, rfl, hX, .inl ⟨rfl, _, _, (lineI_give hp15 hok hxs (by first | exact fun q => hp49 q.1 | exact fun q => hp53 (by omega)) hp88 hp103 ⟨hp118, by omega, by omega, by omega⟩).trans (by rw [e0, e1]), hB, hM⟩⟩) | (exact ⟨false, rfl, hX, .inr ⟨rfl, lineI_none hp15 hok hxs (by first | exact fun q => hp49 q.1 | exact fun q => hp53 (by omega)) hp88 hp103 (by first | exact fun q => hp118 q.1 | exact fun q => hp122 (by omega) | exact fun q => by (have e0 := getD_eq (z := (0 : Int)) (show 0 < xs40.length by omega); have := q.2.2; omega))⟩⟩)
                  · have hp134 := inR_false.1 hg134
                    refine W_seq ?_
                    refine W_region ?_
                    refine WL_q rfl (ev_assign rfl) ?_
                    refine WL_nil ?_
                    refine thenE_n ?_
                    refine W_ret ?_
                    refine blockE_r ?_
                    refine thenE_r ?_
                    refine ret1 rfl rfl ?_
                    first | (exact ⟨q3, rfl, hX, hq3c.elim (fun e => .inl ⟨e.1, h5, _, lineI_when hp15 e.2, hB, hM⟩) fun e => .inr ⟨e.1, lineI_when hp15 e.2.1⟩⟩) | (exact ⟨false, rfl, hX, .inr ⟨rfl, lineI_bad hp15 (hq40.elim (fun e => absurd (e.1.symm.trans hg42) (by decide)) fun e => e.2.1)⟩⟩) | (have e0 := getD_eq (z := (0 : Int)) (show 0 < xs40.length by omega); have e1 := getD_eq (z := (0 : Int)) (show 1 < xs40.length by omega); have e2 := getD_eq (z := (0 : Int)) (show 2 < xs40.length by omega); exact ⟨true, rfl, hX, .inl ⟨rfl, ⟨a1, c1, a2, c2, a3, c3, a81, c81⟩, hdM M xs40 (outI (xs40.getD 1 0)), lineI_mach hp15 hok hxs hp49 (by omega), by simp only [hdM, mCells, outI, e0, e1, e2]; exact hB, by simp only [hdM, outI, e0, e1, e2]; exact hM.up (Nat.le_refl _) (by omega) (by omega)⟩⟩) | (exact ⟨true, rfl, hX, .inl ⟨rfl, ⟨a96, c96, a2, c2, a3, c3, a4, c4⟩, addSt M xs40, lineI_start hp15 hok hxs (by first | exact fun q => hp49 q.1 | exact fun q => hp53 (by omega)) hp88, by simpa [mCells, addSt] using hB, hM.up (Nat.le_refl _) (by omega) (by omega)⟩⟩) | (exact ⟨true, rfl, hX, .inl ⟨rfl, ⟨a1, c1, a111, c111, a3, c3, a4, c4⟩, addSe M xs40, lineI_send hp15 hok hxs (by first | exact fun q => hp49 q.1 | exact fun q => hp53 (by omega)) hp88 hp103, by simpa [mCells, addSe] using hB, hM.up (Nat.le_refl _) (by omega) (by omega)⟩⟩) | (have e0 := getD_eq (z := (0 : Int)) (show 0 < xs40.length by omega); have e1 := getD_eq (z := (0 : Int)) (show 1 < xs40.length by omega); exact ⟨true, rfl, hX, .inl ⟨rfl, _, _, (lineI_give hp15 hok hxs (by first | exact fun q => hp49 q.1 | exact fun q => hp53 (by omega)) hp88 hp103 ⟨hp118, by omega, by omega, by omega⟩).trans (by rw [e0, e1]), hB, hM⟩⟩) | (exact ⟨false, rfl, hX, .inr ⟨rfl, lineI_none hp15 hok hxs (by first | exact fun q => hp49 q.1 | exact fun q => hp53 (by omega)) hp88 hp103 (by first | exact fun q => hp118 q.1 | exact fun q => hp122 (by omega) | exact fun q => by (have e0 := getD_eq (z := (0 : Int)) (show 0 < xs40.length by omega); have := q.2.2; omega))⟩⟩)
                · have hp122 := of_decide_eq_false hg122
                  refine PW_no rfl rfl rfl hg122 rfl ?_
                  refine PW_no rfl rfl rfl hg122 rfl ?_
                  refine PW_no rfl rfl rfl hg122 rfl ?_
                  refine PW_no rfl rfl rfl hg122 rfl ?_
                  refine PW_no rfl rfl rfl hg122 rfl ?_
                  refine PW_no rfl rfl rfl hg122 rfl ?_
                  refine PW_no rfl rfl rfl hg122 rfl ?_
                  refine PW_no rfl rfl rfl hg122 rfl ?_
                  refine PW_no rfl rfl rfl hg122 rfl ?_
                  refine PW_no rfl rfl rfl hg122 rfl ?_
                  refine PW_q rfl rfl (fun wq hq => ev_pick_f rfl hg122 rfl) ?_
                  refine PW_q rfl rfl (fun wq hq => ev_assign rfl) ?_
                  refine PW_nil ?_
                  refine thenE_n ?_
                  refine W_cond_f rfl ?_
                  refine W_seq ?_
                  refine W_region ?_
                  refine WL_q rfl (ev_assign rfl) ?_
                  refine WL_nil ?_
                  refine thenE_n ?_
                  refine W_ret ?_
                  refine blockE_r ?_
                  refine thenE_r ?_
                  refine ret1 rfl rfl ?_
                  first | (exact ⟨q3, rfl, hX, hq3c.elim (fun e => .inl ⟨e.1, h5, _, lineI_when hp15 e.2, hB, hM⟩) fun e => .inr ⟨e.1, lineI_when hp15 e.2.1⟩⟩) | (exact ⟨false, rfl, hX, .inr ⟨rfl, lineI_bad hp15 (hq40.elim (fun e => absurd (e.1.symm.trans hg42) (by decide)) fun e => e.2.1)⟩⟩) | (have e0 := getD_eq (z := (0 : Int)) (show 0 < xs40.length by omega); have e1 := getD_eq (z := (0 : Int)) (show 1 < xs40.length by omega); have e2 := getD_eq (z := (0 : Int)) (show 2 < xs40.length by omega); exact ⟨true, rfl, hX, .inl ⟨rfl, ⟨a1, c1, a2, c2, a3, c3, a81, c81⟩, hdM M xs40 (outI (xs40.getD 1 0)), lineI_mach hp15 hok hxs hp49 (by omega), by simp only [hdM, mCells, outI, e0, e1, e2]; exact hB, by simp only [hdM, outI, e0, e1, e2]; exact hM.up (Nat.le_refl _) (by omega) (by omega)⟩⟩) | (exact ⟨true, rfl, hX, .inl ⟨rfl, ⟨a96, c96, a2, c2, a3, c3, a4, c4⟩, addSt M xs40, lineI_start hp15 hok hxs (by first | exact fun q => hp49 q.1 | exact fun q => hp53 (by omega)) hp88, by simpa [mCells, addSt] using hB, hM.up (Nat.le_refl _) (by omega) (by omega)⟩⟩) | (exact ⟨true, rfl, hX, .inl ⟨rfl, ⟨a1, c1, a111, c111, a3, c3, a4, c4⟩, addSe M xs40, lineI_send hp15 hok hxs (by first | exact fun q => hp49 q.1 | exact fun q => hp53 (by omega)) hp88 hp103, by simpa [mCells, addSe] using hB, hM.up (Nat.le_refl _) (by omega) (by omega)⟩⟩) | (have e0 := getD_eq (z := (0 : Int)) (show 0 < xs40.length by omega); have e1 := getD_eq (z := (0 : Int)) (show 1 < xs40.length by omega); exact ⟨true, rfl, hX, .inl ⟨rfl, _, _, (lineI_give hp15 hok hxs (by first | exact fun q => hp49 q.1 | exact fun q => hp53 (by omega)) hp88 hp103 ⟨hp118, by omega, by omega, by omega⟩).trans (by rw [e0, e1]), hB, hM⟩⟩) | (exact ⟨false, rfl, hX, .inr ⟨rfl, lineI_none hp15 hok hxs (by first | exact fun q => hp49 q.1 | exact fun q => hp53 (by omega)) hp88 hp103 (by first | exact fun q => hp118 q.1 | exact fun q => hp122 (by omega) | exact fun q => by (have e0 := getD_eq (z := (0 : Int)) (show 0 < xs40.length by omega); have := q.2.2; omega))⟩⟩)
              · have hp118 := of_decide_eq_false hg118
                refine PW_no rfl rfl rfl hg118 rfl ?_
                refine PW_no rfl rfl rfl hg118 rfl ?_
                refine PW_no rfl rfl rfl hg118 rfl ?_
                refine PW_q rfl rfl (fun wq hq => ev_pick_f rfl hg118 rfl) ?_
                refine PW_q rfl rfl (fun wq hq => ev_move rfl) ?_
                refine PW_no rfl rfl rfl rfl rfl ?_
                refine PW_no rfl rfl rfl rfl rfl ?_
                refine PW_no rfl rfl rfl rfl rfl ?_
                refine PW_no rfl rfl rfl rfl rfl ?_
                refine PW_no rfl rfl rfl rfl rfl ?_
                refine PW_no rfl rfl rfl rfl rfl ?_
                refine PW_no rfl rfl rfl rfl rfl ?_
                refine PW_no rfl rfl rfl rfl rfl ?_
                refine PW_no rfl rfl rfl rfl rfl ?_
                refine PW_no rfl rfl rfl rfl rfl ?_
                refine PW_q rfl rfl (fun wq hq => ev_pick_f rfl rfl rfl) ?_
                refine PW_q rfl rfl (fun wq hq => ev_assign rfl) ?_
                refine PW_nil ?_
                refine thenE_n ?_
                refine W_cond_f rfl ?_
                refine W_seq ?_
                refine W_region ?_
                refine WL_q rfl (ev_assign rfl) ?_
                refine WL_nil ?_
                refine thenE_n ?_
                refine W_ret ?_
                refine blockE_r ?_
                refine thenE_r ?_
                refine ret1 rfl rfl ?_
                first | (exact ⟨q3, rfl, hX, hq3c.elim (fun e => .inl ⟨e.1, h5, _, lineI_when hp15 e.2, hB, hM⟩) fun e => .inr ⟨e.1, lineI_when hp15 e.2.1⟩⟩) | (exact ⟨false, rfl, hX, .inr ⟨rfl, lineI_bad hp15 (hq40.elim (fun e => absurd (e.1.symm.trans hg42) (by decide)) fun e => e.2.1)⟩⟩) | (have e0 := getD_eq (z := (0 : Int)) (show 0 < xs40.length by omega); have e1 := getD_eq (z := (0 : Int)) (show 1 < xs40.length by omega); have e2 := getD_eq (z := (0 : Int)) (show 2 < xs40.length by omega); exact ⟨true, rfl, hX, .inl ⟨rfl, ⟨a1, c1, a2, c2, a3, c3, a81, c81⟩, hdM M xs40 (outI (xs40.getD 1 0)), lineI_mach hp15 hok hxs hp49 (by omega), by simp only [hdM, mCells, outI, e0, e1, e2]; exact hB, by simp only [hdM, outI, e0, e1, e2]; exact hM.up (Nat.le_refl _) (by omega) (by omega)⟩⟩) | (exact ⟨true, rfl, hX, .inl ⟨rfl, ⟨a96, c96, a2, c2, a3, c3, a4, c4⟩, addSt M xs40, lineI_start hp15 hok hxs (by first | exact fun q => hp49 q.1 | exact fun q => hp53 (by omega)) hp88, by simpa [mCells, addSt] using hB, hM.up (Nat.le_refl _) (by omega) (by omega)⟩⟩) | (exact ⟨true, rfl, hX, .inl ⟨rfl, ⟨a1, c1, a111, c111, a3, c3, a4, c4⟩, addSe M xs40, lineI_send hp15 hok hxs (by first | exact fun q => hp49 q.1 | exact fun q => hp53 (by omega)) hp88 hp103, by simpa [mCells, addSe] using hB, hM.up (Nat.le_refl _) (by omega) (by omega)⟩⟩) | (have e0 := getD_eq (z := (0 : Int)) (show 0 < xs40.length by omega); have e1 := getD_eq (z := (0 : Int)) (show 1 < xs40.length by omega); exact ⟨true, rfl, hX, .inl ⟨rfl, _, _, (lineI_give hp15 hok hxs (by first | exact fun q => hp49 q.1 | exact fun q => hp53 (by omega)) hp88 hp103 ⟨hp118, by omega, by omega, by omega⟩).trans (by rw [e0, e1]), hB, hM⟩⟩) | (exact ⟨false, rfl, hX, .inr ⟨rfl, lineI_none hp15 hok hxs (by first | exact fun q => hp49 q.1 | exact fun q => hp53 (by omega)) hp88 hp103 (by first | exact fun q => hp118 q.1 | exact fun q => hp122 (by omega) | exact fun q => by (have e0 := getD_eq (z := (0 : Int)) (show 0 < xs40.length by omega); have := q.2.2; omega))⟩⟩)
      · have hp49 := of_decide_eq_false hg49
        refine WL_no rfl rfl hg49 rfl ?_
        refine WL_no rfl rfl hg49 rfl ?_
        refine WL_no rfl rfl hg49 rfl ?_
        refine WL_q rfl (ev_pick_f rfl hg49 rfl) ?_
        refine WL_q rfl (ev_assign rfl) ?_
        refine WL_nil ?_
        refine thenE_n ?_
        refine W_cond_f rfl ?_
        refine W_seq ?_
        refine W_region ?_
        refine WL_q rfl (ev_move rfl) ?_
        refine WL_q rfl (ev_indexAddr Tryz.underlying32 sz9 rfl rfl (hW11.isSome (by omega)) (by omega) (by omega)) ?_
        refine WL_q rfl (ev_load one9 rfl (hW11.hd)) ?_
        refine WL_q rfl (ev_eql_str (b := [115, 116, 97, 114, 116]) rfl rfl) ?_
        refine WL_q rfl (ev_assign rfl) ?_
        refine WL_nil ?_
        refine thenE_n ?_
        refine W_cond rfl (fun hg88 => ?_) (fun hg88 => ?_)
        · have hp88 := of_decide_eq_true hg88
          refine W_region ?_
          refine WL_q rfl (ev_move rfl) ?_
          refine WL_q rfl (ev_move rfl) ?_
          refine WL_q rfl (ev_nilCheck rfl) ?_
          refine WL_q rfl (ev_fieldAddr fo26_3 rfl) ?_
          refine WL_q rfl (ev_load one22 rfl (hB.cell rfl)) ?_
          refine WL_q rfl (ev_move rfl) ?_
          refine WL_m rfl (ev_lit1 Tryz.underlying22 el24 (by decide) (by decide) rfl rfl) ?_
          rintro _ w95 ⟨rfl, hN95⟩
          have hz95 := hN95.size
          replace hX := hX.trans hN95.ext
          replace hG := hG.ext hN95.ext
          replace hB := hB.ext hN95.ext
          replace hM := hM.ext hN95.ext
          replace hW11 := hW11.ext hN95.ext
          replace hO40 := hO40.ext hN95.ext
          have hB95 := hN95.blk
          obtain ⟨v1, v2, v3, hV⟩ := hM
          have hP96 := hV.out1.1
          refine WL_m rfl (ev_append Tryz.underlying22 el24 rfl (by decide) rfl rfl hP96 (SAt.of_blk (cs := [_]) (ds := []) hB95) rfl (by simp [Value.oneCell']) (by omega) (by unfold maxLen; omega) (by omega)) ?_
          rintro _ w96 ⟨a96, c96, rfl, hO96, hK96, hQ96⟩
          have hz96 := hK96.size
          replace hX := hX.app hK96 (fun q hq => by have := (hP96.block q hq).1; omega)
          replace hG := hG.app hK96 (hP96) (by omega)
          replace hB := hB.app hK96 (hP96) (by omega)
          have hP96 := hO96
          have hM := hV.addSt hO40 (by omega) hK96 hP96 hQ96
          refine WL_q rfl (ev_nilCheck rfl) ?_
          refine WL_q rfl (ev_fieldAddr fo26_3 rfl) ?_
          refine WL_s (ev_store sz22 rfl rfl rfl hB (by simp)) ?_
          rintro _ w15_10 hS15_10
          have hz15_10 := hS15_10.size
          replace hX := hX.sto hS15_10 (by omega)
          replace hG := hG.sto hS15_10 (by omega)
          replace hM := hM.sto hS15_10 (by omega)
          replace hB := hS15_10.blk
          refine WL_nil ?_
          refine blockE_n ?_
          refine thenE_n ?_
          refine W_seq ?_
          refine W_region ?_
          refine WL_q rfl (ev_assign rfl) ?_
          refine WL_nil ?_
          refine thenE_n ?_
          refine W_ret ?_
          refine ret1 rfl rfl ?_
          first | (exact ⟨q3, rfl, hX, hq3c.elim (fun e => .inl ⟨e.1, h5, _, lineI_when hp15 e.2, hB, hM⟩) fun e => .inr ⟨e.1, lineI_when hp15 e.2.1⟩⟩) | (exact ⟨false, rfl, hX, .inr ⟨rfl, lineI_bad hp15 (hq40.elim (fun e => absurd (e.1.symm.trans hg42) (by decide)) fun e => e.2.1)⟩⟩) | (have e0 := getD_eq (z := (0 : Int)) (show 0 < xs40.length by omega); have e1 := getD_eq (z := (0 : Int)) (show 1 < xs40.length by omega); have e2 := getD_eq (z := (0 : Int)) (show 2 < xs40.length by omega); exact ⟨true, rfl, hX, .inl ⟨rfl, ⟨a1, c1, a2, c2, a3, c3, a81, c81⟩, hdM M xs40 (outI (xs40.getD 1 0)), lineI_mach hp15 hok hxs hp49 (by omega), by simp only [hdM, mCells, outI, e0, e1, e2]; exact hB, by simp only [hdM, outI, e0, e1, e2]; exact hM.up (Nat.le_refl _) (by omega) (by omega)⟩⟩) | (exact ⟨true, rfl, hX, .inl ⟨rfl, ⟨a96, c96, a2, c2, a3, c3, a4, c4⟩, addSt M xs40, lineI_start hp15 hok hxs (by first | exact fun q => hp49 q.1 | exact fun q => hp53 (by omega)) hp88, by simpa [mCells, addSt] using hB, hM.up (Nat.le_refl _) (by omega) (by omega)⟩⟩) | (exact ⟨true, rfl, hX, .inl ⟨rfl, ⟨a1, c1, a111, c111, a3, c3, a4, c4⟩, addSe M xs40, lineI_send hp15 hok hxs (by first | exact fun q => hp49 q.1 | exact fun q => hp53 (by omega)) hp88 hp103, by simpa [mCells, addSe] using hB, hM.up (Nat.le_refl _) (by omega) (by omega)⟩⟩) | (have e0 := getD_eq (z := (0 : Int)) (show 0 < xs40.length by omega); have e1 := getD_eq (z := (0 : Int)) (show 1 < xs40.length by omega); exact ⟨true, rfl, hX, .inl ⟨rfl, _, _, (lineI_give hp15 hok hxs (by first | exact fun q => hp49 q.1 | exact fun q => hp53 (by omega)) hp88 hp103 ⟨hp118, by omega, by omega, by omega⟩).trans (by rw [e0, e1]), hB, hM⟩⟩) | (exact ⟨false, rfl, hX, .inr ⟨rfl, lineI_none hp15 hok hxs (by first | exact fun q => hp49 q.1 | exact fun q => hp53 (by omega)) hp88 hp103 (by first | exact fun q => hp118 q.1 | exact fun q => hp122 (by omega) | exact fun q => by (have e0 := getD_eq (z := (0 : Int)) (show 0 < xs40.length by omega); have := q.2.2; omega))⟩⟩)
        · have hp88 := of_decide_eq_false hg88
          refine W_seq ?_
          refine W_region ?_
          refine WL_q rfl (ev_move rfl) ?_
          refine WL_q rfl (ev_indexAddr Tryz.underlying32 sz9 rfl rfl (hW11.isSome (by omega)) (by omega) (by omega)) ?_
          refine WL_q rfl (ev_load one9 rfl (hW11.hd)) ?_
          refine WL_q rfl (ev_eql_str (b := [115, 101, 110, 100]) rfl rfl) ?_
          refine WL_q rfl (ev_assign rfl) ?_
          refine WL_nil ?_
          refine thenE_n ?_
          refine W_cond rfl (fun hg103 => ?_) (fun hg103 => ?_)
          · have hp103 := of_decide_eq_true hg103
            refine W_region ?_
            refine WL_q rfl (ev_move rfl) ?_
            refine WL_q rfl (ev_move rfl) ?_
            refine WL_q rfl (ev_nilCheck rfl) ?_
            refine WL_q rfl (ev_fieldAddr fo26_4 rfl) ?_
            refine WL_q rfl (ev_load one22 rfl (hB.cell rfl)) ?_
            refine WL_q rfl (ev_move rfl) ?_
            refine WL_m rfl (ev_lit1 Tryz.underlying22 el24 (by decide) (by decide) rfl rfl) ?_
            rintro _ w110 ⟨rfl, hN110⟩
            have hz110 := hN110.size
            replace hX := hX.trans hN110.ext
            replace hG := hG.ext hN110.ext
            replace hB := hB.ext hN110.ext
            replace hM := hM.ext hN110.ext
            replace hW11 := hW11.ext hN110.ext
            replace hO40 := hO40.ext hN110.ext
            have hB110 := hN110.blk
            obtain ⟨v1, v2, v3, hV⟩ := hM
            have hP111 := hV.out2.1
            refine WL_m rfl (ev_append Tryz.underlying22 el24 rfl (by decide) rfl rfl hP111 (SAt.of_blk (cs := [_]) (ds := []) hB110) rfl (by simp [Value.oneCell']) (by omega) (by unfold maxLen; omega) (by omega)) ?_
            rintro _ w111 ⟨a111, c111, rfl, hO111, hK111, hQ111⟩
            have hz111 := hK111.size
            replace hX := hX.app hK111 (fun q hq => by have := (hP111.block q hq).1; omega)
            replace hG := hG.app hK111 (hP111) (by omega)
            replace hB := hB.app hK111 (hP111) (by omega)
            have hP111 := hO111
            have hM := hV.addSe hO40 (by omega) hK111 hP111 hQ111
            refine WL_q rfl (ev_nilCheck rfl) ?_
            refine WL_q rfl (ev_fieldAddr fo26_4 rfl) ?_
            refine WL_s (ev_store sz22 rfl rfl rfl hB (by simp)) ?_
            rintro _ w17_10 hS17_10
            have hz17_10 := hS17_10.size
            replace hX := hX.sto hS17_10 (by omega)
            replace hG := hG.sto hS17_10 (by omega)
            replace hM := hM.sto hS17_10 (by omega)
            replace hB := hS17_10.blk
            refine WL_nil ?_
            refine blockE_n ?_
            refine thenE_n ?_
            refine W_seq ?_
            refine W_region ?_
            refine WL_q rfl (ev_assign rfl) ?_
            refine WL_nil ?_
            refine thenE_n ?_
            refine W_ret ?_
            refine ret1 rfl rfl ?_
            first | (exact ⟨q3, rfl, hX, hq3c.elim (fun e => .inl ⟨e.1, h5, _, lineI_when hp15 e.2, hB, hM⟩) fun e => .inr ⟨e.1, lineI_when hp15 e.2.1⟩⟩) | (exact ⟨false, rfl, hX, .inr ⟨rfl, lineI_bad hp15 (hq40.elim (fun e => absurd (e.1.symm.trans hg42) (by decide)) fun e => e.2.1)⟩⟩) | (have e0 := getD_eq (z := (0 : Int)) (show 0 < xs40.length by omega); have e1 := getD_eq (z := (0 : Int)) (show 1 < xs40.length by omega); have e2 := getD_eq (z := (0 : Int)) (show 2 < xs40.length by omega); exact ⟨true, rfl, hX, .inl ⟨rfl, ⟨a1, c1, a2, c2, a3, c3, a81, c81⟩, hdM M xs40 (outI (xs40.getD 1 0)), lineI_mach hp15 hok hxs hp49 (by omega), by simp only [hdM, mCells, outI, e0, e1, e2]; exact hB, by simp only [hdM, outI, e0, e1, e2]; exact hM.up (Nat.le_refl _) (by omega) (by omega)⟩⟩) | (exact ⟨true, rfl, hX, .inl ⟨rfl, ⟨a96, c96, a2, c2, a3, c3, a4, c4⟩, addSt M xs40, lineI_start hp15 hok hxs (by first | exact fun q => hp49 q.1 | exact fun q => hp53 (by omega)) hp88, by simpa [mCells, addSt] using hB, hM.up (Nat.le_refl _) (by omega) (by omega)⟩⟩) | (exact ⟨true, rfl, hX, .inl ⟨rfl, ⟨a1, c1, a111, c111, a3, c3, a4, c4⟩, addSe M xs40, lineI_send hp15 hok hxs (by first | exact fun q => hp49 q.1 | exact fun q => hp53 (by omega)) hp88 hp103, by simpa [mCells, addSe] using hB, hM.up (Nat.le_refl _) (by omega) (by omega)⟩⟩) | (have e0 := getD_eq (z := (0 : Int)) (show 0 < xs40.length by omega); have e1 := getD_eq (z := (0 : Int)) (show 1 < xs40.length by omega); exact ⟨true, rfl, hX, .inl ⟨rfl, _, _, (lineI_give hp15 hok hxs (by first | exact fun q => hp49 q.1 | exact fun q => hp53 (by omega)) hp88 hp103 ⟨hp118, by omega, by omega, by omega⟩).trans (by rw [e0, e1]), hB, hM⟩⟩) | (exact ⟨false, rfl, hX, .inr ⟨rfl, lineI_none hp15 hok hxs (by first | exact fun q => hp49 q.1 | exact fun q => hp53 (by omega)) hp88 hp103 (by first | exact fun q => hp118 q.1 | exact fun q => hp122 (by omega) | exact fun q => by (have e0 := getD_eq (z := (0 : Int)) (show 0 < xs40.length by omega); have := q.2.2; omega))⟩⟩)
          · have hp103 := of_decide_eq_false hg103
            refine W_seq ?_
            refine W_drawE [(0, true), (1, true), (2, true), (3, true), (4, true), (5, true), (6, true), (7, true), (8, true), (9, true), (10, true), (11, true), (12, true), (13, true), (14, true), (15, true), (16, true), (17, true), (18, true), (19, false), (20, true), (21, true)] mixed (by kernel_rfl) rfl (by kernel_rfl) ?_
            intro wd18 hEd18 hzd18
            replace hX := hX.trans hEd18
            replace hG := hG.ext hEd18
            replace hB := hB.ext hEd18
            replace hM := hM.ext hEd18
            replace hW11 := hW11.ext hEd18
            replace hO40 := hO40.ext hEd18
            have hDd18 := Ext.refl wd18
            refine PW_q rfl rfl (fun wq hq => ev_move rfl) ?_
            refine PW_q rfl rfl (fun wq hq => ev_indexAddr Tryz.underlying32 sz9 rfl rfl (hW11.isSome (by omega)) (by omega) (by omega)) ?_
            refine PW_q rfl rfl (fun wq hq => ev_load one9 rfl (hq.cell (hW11.hd))) ?_
            refine PW_q rfl rfl (fun wq hq => ev_eql_str (b := [103, 105, 118, 101]) rfl rfl) ?_
            refine PW_q rfl rfl (fun wq hq => ev_move rfl) ?_
            refine PW_splitv (t := 119) rfl (fun hg118 => ?_) (fun hg118 => ?_)
            · have hp118 := of_decide_eq_true hg118
              refine PW_qg rfl rfl rfl hg118 rfl (fun wq hq => ev_move rfl) ?_
              refine PW_qg rfl rfl rfl hg118 rfl (fun wq hq => ev_len Tryz.underlying24 rfl) ?_
              refine PW_qg rfl rfl rfl hg118 rfl (fun wq hq => ev_eql rfl rfl) ?_
              refine PW_q rfl rfl (fun wq hq => ev_pick_t rfl hg118 rfl) ?_
              refine PW_q rfl rfl (fun wq hq => ev_move rfl) ?_
              refine PW_splitv (t := 124) rfl (fun hg122 => ?_) (fun hg122 => ?_)
              · have hp122 := of_decide_eq_true hg122
                refine PW_qg rfl rfl rfl hg122 rfl (fun wq hq => ev_move rfl) ?_
                refine PW_qg rfl rfl rfl hg122 rfl (fun wq hq => ev_indexAddr Tryz.underlying24 sz3 rfl rfl ((ownt_i hO40).isSome (by omega)) (by omega) (by omega)) ?_
                have hc127 := (ownt_i hO40).cell (i := 0) (by omega)
                refine PW_qg rfl rfl rfl hg122 rfl (fun wq hq => ev_load one3 rfl (hq.cell (hc127))) ?_
                refine PW_qg rfl rfl rfl hg122 rfl (fun wq hq => ev_move rfl) ?_
                refine PW_qg rfl rfl rfl hg122 rfl (fun wq hq => ev_nilCheck rfl) ?_
                refine PW_qg rfl rfl rfl hg122 rfl (fun wq hq => ev_fieldAddr fo26_6 rfl) ?_
                refine PW_qg rfl rfl rfl hg122 rfl (fun wq hq => ev_load one24 rfl (hq.cell (hB.cell rfl))) ?_
                refine PW_qg rfl rfl rfl hg122 rfl (fun wq hq => ev_len Tryz.underlying24 rfl) ?_
                refine PW_qg rfl rfl rfl hg122 rfl (fun wq hq => ev_sub rfl rfl (by omega)) ?_
                refine PW_mg rfl rfl rfl hg122 rfl (ev_call rfl (within_spec _ _ _ _)) ?_
                rintro _ _ ⟨rfl, rfl⟩
                refine ⟨hDd18, ?_⟩
                refine PW_q rfl rfl (fun wq hq => ev_pick_t rfl hg122 rfl) ?_
                refine PW_q rfl rfl (fun wq hq => ev_assign rfl) ?_
                replace hG := hG.ext hDd18
                replace hB := hB.ext hDd18
                replace hM := hM.ext hDd18
                replace hW11 := hW11.ext hDd18
                replace hO40 := hO40.ext hDd18
                refine PW_nil ?_
                refine thenE_n ?_
                refine W_cond rfl (fun hg134 => ?_) (fun hg134 => ?_)
                · have hp134 := inR_true.1 hg134
                  refine W_drawY (X := Unit) (fun x => []) (fun x w' => Blk w' bm 26 (mCells ⟨a1, c1, a2, c2, a3, c3, a4, c4⟩ (setOut M (xs40[0]'(by omega)) (xs40[1]'(by omega)))) ∧ HM pIntO (bm + 1) w'.heap.size w' ⟨a1, c1, a2, c2, a3, c3, a4, c4⟩ (setOut M (xs40[0]'(by omega)) (xs40[1]'(by omega))) ∧ Lo bm w w') 11 0 0 0 0 (bm + 1) r 0 0 (.q 0 (.q 1 (.q 2 (.q 3 (.q 4 (.q 5 (.q 6 (.q 7 (.q 8 (.q 9 (.q 10 (.z 11 .done)))))))))))) mixed (by kernel_rfl) rfl (by kernel_rfl) ?_ ?_
                  · intro wd19 hEd19 hzd19
                    replace hX := hX.trans hEd19
                    replace hG := hG.ext hEd19
                    replace hB := hB.ext hEd19
                    replace hM := hM.ext hEd19
                    replace hW11 := hW11.ext hEd19
                    replace hO40 := hO40.ext hEd19
                    obtain ⟨g4, rest4, rfl, hg4, hB9, hc4, hm4, hl4, hxl4⟩ := hM.out4.1.blk (by omega)
                    have hgr : g4 < r := (hM.out4.2 _ rfl).1
                    have hM19 := hM
                    have hSd19 := (Rg.refl : Rg 0 0 0 0 wd19 wd19)
                    have hUd19 := (Rg.refl : Rg (bm + 1) r 0 0 wd19 wd19)
                    refine PY_q rfl rfl (fun wq hq => ev_move rfl) ?_
                    refine PY_q rfl rfl (fun wq hq => ev_nilCheck rfl) ?_
                    refine PY_q rfl rfl (fun wq hq => ev_fieldAddr fo26_6 rfl) ?_
                    refine PY_q rfl rfl (fun wq hq => ev_load one24 rfl ((hB.rg hq.1 (by omega)).cell rfl)) ?_
                    refine PY_q rfl rfl (fun wq hq => ev_move rfl) ?_
                    refine PY_q rfl rfl (fun wq hq => ev_indexAddr Tryz.underlying24 sz3 rfl rfl ((ownt_i hO40).isSome (by omega)) (by omega) (by omega)) ?_
                    refine PY_q rfl rfl (fun wq hq => ev_load one3 rfl (((ownt_i hO40).rg hq.1 (by omega)).cellJ (i := 0) (j := Int.toNat ((0 : Nat) : Int)) (by omega) (by omega))) ?_
                    refine PY_q rfl rfl (fun wq hq => ev_move rfl) ?_
                    refine PY_q rfl rfl (fun wq hq => ev_indexAddr Tryz.underlying24 sz3 rfl rfl ((ownt_i hO40).isSome (by omega)) (by omega) (by omega)) ?_
                    refine PY_q rfl rfl (fun wq hq => ev_load one3 rfl (((ownt_i hO40).rg hq.1 (by omega)).cellJ (i := 1) (j := Int.toNat ((1 : Nat) : Int)) (by omega) (by omega))) ?_
                    refine PY_q rfl rfl (fun wq hq => ev_indexAddr Tryz.underlying24 sz3 rfl rfl rfl (by omega) (by omega)) ?_
                    refine PY_z ?_
                    refine PB_s (bm + 1) r 0 0 (bm + 1) r 0 0 rfl (ev_store sz3 rfl rfl rfl hB9 (by simp; omega)) ?_
                    rintro _ w19_11 hS19_11
                    have hz19_11 := hS19_11.size
                    replace hX := hX.sto hS19_11 (by omega)
                    replace hUd19 := hUd19.sto hS19_11 (by omega)
                    replace hG := hG.sto hS19_11 (by omega)
                    replace hB := hB.sto hS19_11 (by omega)
                    replace hB9 := hS19_11.blk
                    have hM := hM19.chOut (hS19_11.keep.mono fun i hi => hi.2 _ rfl) (own_put hg4 hc4 hm4 hl4 (i := (xs40[0]).toNat) (by omega) (by omega) hB9) (fun q hq => .inl ⟨_, rfl, by cases hq; rfl⟩) (by omega)
                    refine ⟨fun _ _ => trivial, fun _ hx => ⟨hUd19.rg hx (by omega), trivial⟩, ?_⟩
                    have hSd19 := (Rg.refl : Rg (bm + 1) r 0 0 w19_11 w19_11)
                    have hUd19 := (Rg.refl : Rg (bm + 1) r 0 0 w19_11 w19_11)
                    exact PY_nil 11 () rfl trivial rfl ⟨by simpa [mCells, setOut] using hB, hM.up (Nat.le_refl _) (by omega) (by omega), hX⟩
                  rintro _ wt19 ⟨hB, hM, hX⟩
                  dsimp only [List.cons_append, List.nil_append]
                  refine blockE_n ?_
                  refine thenE_n ?_
                  refine W_seq ?_
                  refine W_region ?_
                  refine WL_q rfl (ev_assign rfl) ?_
                  refine WL_nil ?_
                  refine thenE_n ?_
                  refine W_ret ?_
                  refine ret1 rfl rfl ?_
                  first | (exact ⟨q3, rfl, hX, hq3c.elim (fun e => .inl ⟨e.1, h5, _, lineI_when hp15 e.2, hB, hM⟩) fun e => .inr ⟨e.1, lineI_when hp15 e.2.1⟩⟩) | (exact ⟨false, rfl, hX, .inr ⟨rfl, lineI_bad hp15 (hq40.elim (fun e => absurd (e.1.symm.trans hg42) (by decide)) fun e => e.2.1)⟩⟩) | (have e0 := getD_eq (z := (0 : Int)) (show 0 < xs40.length by omega); have e1 := getD_eq (z := (0 : Int)) (show 1 < xs40.length by omega); have e2 := getD_eq (z := (0 : Int)) (show 2 < xs40.length by omega); exact ⟨true, rfl, hX, .inl ⟨rfl, ⟨a1, c1, a2, c2, a3, c3, a81, c81⟩, hdM M xs40 (outI (xs40.getD 1 0)), lineI_mach hp15 hok hxs hp49 (by omega), by simp only [hdM, mCells, outI, e0, e1, e2]; exact hB, by simp only [hdM, outI, e0, e1, e2]; exact hM.up (Nat.le_refl _) (by omega) (by omega)⟩⟩) | (exact ⟨true, rfl, hX, .inl ⟨rfl, ⟨a96, c96, a2, c2, a3, c3, a4, c4⟩, addSt M xs40, lineI_start hp15 hok hxs (by first | exact fun q => hp49 q.1 | exact fun q => hp53 (by omega)) hp88, by simpa [mCells, addSt] using hB, hM.up (Nat.le_refl _) (by omega) (by omega)⟩⟩) | (exact ⟨true, rfl, hX, .inl ⟨rfl, ⟨a1, c1, a111, c111, a3, c3, a4, c4⟩, addSe M xs40, lineI_send hp15 hok hxs (by first | exact fun q => hp49 q.1 | exact fun q => hp53 (by omega)) hp88 hp103, by simpa [mCells, addSe] using hB, hM.up (Nat.le_refl _) (by omega) (by omega)⟩⟩) | (have e0 := getD_eq (z := (0 : Int)) (show 0 < xs40.length by omega); have e1 := getD_eq (z := (0 : Int)) (show 1 < xs40.length by omega); exact ⟨true, rfl, hX, .inl ⟨rfl, _, _, (lineI_give hp15 hok hxs (by first | exact fun q => hp49 q.1 | exact fun q => hp53 (by omega)) hp88 hp103 ⟨hp118, by omega, by omega, by omega⟩).trans (by rw [e0, e1]), hB, hM⟩⟩) | (exact ⟨false, rfl, hX, .inr ⟨rfl, lineI_none hp15 hok hxs (by first | exact fun q => hp49 q.1 | exact fun q => hp53 (by omega)) hp88 hp103 (by first | exact fun q => hp118 q.1 | exact fun q => hp122 (by omega) | exact fun q => by (have e0 := getD_eq (z := (0 : Int)) (show 0 < xs40.length by omega); have := q.2.2; omega))⟩⟩)
                · have hp134 := inR_false.1 hg134
                  refine W_seq ?_
                  refine W_region ?_
                  refine WL_q rfl (ev_assign rfl) ?_
                  refine WL_nil ?_
                  refine thenE_n ?_
                  refine W_ret ?_
                  refine blockE_r ?_
                  refine thenE_r ?_
                  refine ret1 rfl rfl ?_
                  first | (exact ⟨q3, rfl, hX, hq3c.elim (fun e => .inl ⟨e.1, h5, _, lineI_when hp15 e.2, hB, hM⟩) fun e => .inr ⟨e.1, lineI_when hp15 e.2.1⟩⟩) | (exact ⟨false, rfl, hX, .inr ⟨rfl, lineI_bad hp15 (hq40.elim (fun e => absurd (e.1.symm.trans hg42) (by decide)) fun e => e.2.1)⟩⟩) | (have e0 := getD_eq (z := (0 : Int)) (show 0 < xs40.length by omega); have e1 := getD_eq (z := (0 : Int)) (show 1 < xs40.length by omega); have e2 := getD_eq (z := (0 : Int)) (show 2 < xs40.length by omega); exact ⟨true, rfl, hX, .inl ⟨rfl, ⟨a1, c1, a2, c2, a3, c3, a81, c81⟩, hdM M xs40 (outI (xs40.getD 1 0)), lineI_mach hp15 hok hxs hp49 (by omega), by simp only [hdM, mCells, outI, e0, e1, e2]; exact hB, by simp only [hdM, outI, e0, e1, e2]; exact hM.up (Nat.le_refl _) (by omega) (by omega)⟩⟩) | (exact ⟨true, rfl, hX, .inl ⟨rfl, ⟨a96, c96, a2, c2, a3, c3, a4, c4⟩, addSt M xs40, lineI_start hp15 hok hxs (by first | exact fun q => hp49 q.1 | exact fun q => hp53 (by omega)) hp88, by simpa [mCells, addSt] using hB, hM.up (Nat.le_refl _) (by omega) (by omega)⟩⟩) | (exact ⟨true, rfl, hX, .inl ⟨rfl, ⟨a1, c1, a111, c111, a3, c3, a4, c4⟩, addSe M xs40, lineI_send hp15 hok hxs (by first | exact fun q => hp49 q.1 | exact fun q => hp53 (by omega)) hp88 hp103, by simpa [mCells, addSe] using hB, hM.up (Nat.le_refl _) (by omega) (by omega)⟩⟩) | (have e0 := getD_eq (z := (0 : Int)) (show 0 < xs40.length by omega); have e1 := getD_eq (z := (0 : Int)) (show 1 < xs40.length by omega); exact ⟨true, rfl, hX, .inl ⟨rfl, _, _, (lineI_give hp15 hok hxs (by first | exact fun q => hp49 q.1 | exact fun q => hp53 (by omega)) hp88 hp103 ⟨hp118, by omega, by omega, by omega⟩).trans (by rw [e0, e1]), hB, hM⟩⟩) | (exact ⟨false, rfl, hX, .inr ⟨rfl, lineI_none hp15 hok hxs (by first | exact fun q => hp49 q.1 | exact fun q => hp53 (by omega)) hp88 hp103 (by first | exact fun q => hp118 q.1 | exact fun q => hp122 (by omega) | exact fun q => by (have e0 := getD_eq (z := (0 : Int)) (show 0 < xs40.length by omega); have := q.2.2; omega))⟩⟩)
              · have hp122 := of_decide_eq_false hg122
                refine PW_no rfl rfl rfl hg122 rfl ?_
                refine PW_no rfl rfl rfl hg122 rfl ?_
                refine PW_no rfl rfl rfl hg122 rfl ?_
                refine PW_no rfl rfl rfl hg122 rfl ?_
                refine PW_no rfl rfl rfl hg122 rfl ?_
                refine PW_no rfl rfl rfl hg122 rfl ?_
                refine PW_no rfl rfl rfl hg122 rfl ?_
                refine PW_no rfl rfl rfl hg122 rfl ?_
                refine PW_no rfl rfl rfl hg122 rfl ?_
                refine PW_no rfl rfl rfl hg122 rfl ?_
                refine PW_q rfl rfl (fun wq hq => ev_pick_f rfl hg122 rfl) ?_
                refine PW_q rfl rfl (fun wq hq => ev_assign rfl) ?_
                refine PW_nil ?_
                refine thenE_n ?_
                refine W_cond_f rfl ?_
                refine W_seq ?_
                refine W_region ?_
                refine WL_q rfl (ev_assign rfl) ?_
                refine WL_nil ?_
                refine thenE_n ?_
                refine W_ret ?_
                refine blockE_r ?_
                refine thenE_r ?_
                refine ret1 rfl rfl ?_
                first | (exact ⟨q3, rfl, hX, hq3c.elim (fun e => .inl ⟨e.1, h5, _, lineI_when hp15 e.2, hB, hM⟩) fun e => .inr ⟨e.1, lineI_when hp15 e.2.1⟩⟩) | (exact ⟨false, rfl, hX, .inr ⟨rfl, lineI_bad hp15 (hq40.elim (fun e => absurd (e.1.symm.trans hg42) (by decide)) fun e => e.2.1)⟩⟩) | (have e0 := getD_eq (z := (0 : Int)) (show 0 < xs40.length by omega); have e1 := getD_eq (z := (0 : Int)) (show 1 < xs40.length by omega); have e2 := getD_eq (z := (0 : Int)) (show 2 < xs40.length by omega); exact ⟨true, rfl, hX, .inl ⟨rfl, ⟨a1, c1, a2, c2, a3, c3, a81, c81⟩, hdM M xs40 (outI (xs40.getD 1 0)), lineI_mach hp15 hok hxs hp49 (by omega), by simp only [hdM, mCells, outI, e0, e1, e2]; exact hB, by simp only [hdM, outI, e0, e1, e2]; exact hM.up (Nat.le_refl _) (by omega) (by omega)⟩⟩) | (exact ⟨true, rfl, hX, .inl ⟨rfl, ⟨a96, c96, a2, c2, a3, c3, a4, c4⟩, addSt M xs40, lineI_start hp15 hok hxs (by first | exact fun q => hp49 q.1 | exact fun q => hp53 (by omega)) hp88, by simpa [mCells, addSt] using hB, hM.up (Nat.le_refl _) (by omega) (by omega)⟩⟩) | (exact ⟨true, rfl, hX, .inl ⟨rfl, ⟨a1, c1, a111, c111, a3, c3, a4, c4⟩, addSe M xs40, lineI_send hp15 hok hxs (by first | exact fun q => hp49 q.1 | exact fun q => hp53 (by omega)) hp88 hp103, by simpa [mCells, addSe] using hB, hM.up (Nat.le_refl _) (by omega) (by omega)⟩⟩) | (have e0 := getD_eq (z := (0 : Int)) (show 0 < xs40.length by omega); have e1 := getD_eq (z := (0 : Int)) (show 1 < xs40.length by omega); exact ⟨true, rfl, hX, .inl ⟨rfl, _, _, (lineI_give hp15 hok hxs (by first | exact fun q => hp49 q.1 | exact fun q => hp53 (by omega)) hp88 hp103 ⟨hp118, by omega, by omega, by omega⟩).trans (by rw [e0, e1]), hB, hM⟩⟩) | (exact ⟨false, rfl, hX, .inr ⟨rfl, lineI_none hp15 hok hxs (by first | exact fun q => hp49 q.1 | exact fun q => hp53 (by omega)) hp88 hp103 (by first | exact fun q => hp118 q.1 | exact fun q => hp122 (by omega) | exact fun q => by (have e0 := getD_eq (z := (0 : Int)) (show 0 < xs40.length by omega); have := q.2.2; omega))⟩⟩)
            · have hp118 := of_decide_eq_false hg118
              refine PW_no rfl rfl rfl hg118 rfl ?_
              refine PW_no rfl rfl rfl hg118 rfl ?_
              refine PW_no rfl rfl rfl hg118 rfl ?_
              refine PW_q rfl rfl (fun wq hq => ev_pick_f rfl hg118 rfl) ?_
              refine PW_q rfl rfl (fun wq hq => ev_move rfl) ?_
              refine PW_no rfl rfl rfl rfl rfl ?_
              refine PW_no rfl rfl rfl rfl rfl ?_
              refine PW_no rfl rfl rfl rfl rfl ?_
              refine PW_no rfl rfl rfl rfl rfl ?_
              refine PW_no rfl rfl rfl rfl rfl ?_
              refine PW_no rfl rfl rfl rfl rfl ?_
              refine PW_no rfl rfl rfl rfl rfl ?_
              refine PW_no rfl rfl rfl rfl rfl ?_
              refine PW_no rfl rfl rfl rfl rfl ?_
              refine PW_no rfl rfl rfl rfl rfl ?_
              refine PW_q rfl rfl (fun wq hq => ev_pick_f rfl rfl rfl) ?_
              refine PW_q rfl rfl (fun wq hq => ev_assign rfl) ?_
              refine PW_nil ?_
              refine thenE_n ?_
              refine W_cond_f rfl ?_
              refine W_seq ?_
              refine W_region ?_
              refine WL_q rfl (ev_assign rfl) ?_
              refine WL_nil ?_
              refine thenE_n ?_
              refine W_ret ?_
              refine blockE_r ?_
              refine thenE_r ?_
              refine ret1 rfl rfl ?_
              first | (exact ⟨q3, rfl, hX, hq3c.elim (fun e => .inl ⟨e.1, h5, _, lineI_when hp15 e.2, hB, hM⟩) fun e => .inr ⟨e.1, lineI_when hp15 e.2.1⟩⟩) | (exact ⟨false, rfl, hX, .inr ⟨rfl, lineI_bad hp15 (hq40.elim (fun e => absurd (e.1.symm.trans hg42) (by decide)) fun e => e.2.1)⟩⟩) | (have e0 := getD_eq (z := (0 : Int)) (show 0 < xs40.length by omega); have e1 := getD_eq (z := (0 : Int)) (show 1 < xs40.length by omega); have e2 := getD_eq (z := (0 : Int)) (show 2 < xs40.length by omega); exact ⟨true, rfl, hX, .inl ⟨rfl, ⟨a1, c1, a2, c2, a3, c3, a81, c81⟩, hdM M xs40 (outI (xs40.getD 1 0)), lineI_mach hp15 hok hxs hp49 (by omega), by simp only [hdM, mCells, outI, e0, e1, e2]; exact hB, by simp only [hdM, outI, e0, e1, e2]; exact hM.up (Nat.le_refl _) (by omega) (by omega)⟩⟩) | (exact ⟨true, rfl, hX, .inl ⟨rfl, ⟨a96, c96, a2, c2, a3, c3, a4, c4⟩, addSt M xs40, lineI_start hp15 hok hxs (by first | exact fun q => hp49 q.1 | exact fun q => hp53 (by omega)) hp88, by simpa [mCells, addSt] using hB, hM.up (Nat.le_refl _) (by omega) (by omega)⟩⟩) | (exact ⟨true, rfl, hX, .inl ⟨rfl, ⟨a1, c1, a111, c111, a3, c3, a4, c4⟩, addSe M xs40, lineI_send hp15 hok hxs (by first | exact fun q => hp49 q.1 | exact fun q => hp53 (by omega)) hp88 hp103, by simpa [mCells, addSe] using hB, hM.up (Nat.le_refl _) (by omega) (by omega)⟩⟩) | (have e0 := getD_eq (z := (0 : Int)) (show 0 < xs40.length by omega); have e1 := getD_eq (z := (0 : Int)) (show 1 < xs40.length by omega); exact ⟨true, rfl, hX, .inl ⟨rfl, _, _, (lineI_give hp15 hok hxs (by first | exact fun q => hp49 q.1 | exact fun q => hp53 (by omega)) hp88 hp103 ⟨hp118, by omega, by omega, by omega⟩).trans (by rw [e0, e1]), hB, hM⟩⟩) | (exact ⟨false, rfl, hX, .inr ⟨rfl, lineI_none hp15 hok hxs (by first | exact fun q => hp49 q.1 | exact fun q => hp53 (by omega)) hp88 hp103 (by first | exact fun q => hp118 q.1 | exact fun q => hp122 (by omega) | exact fun q => by (have e0 := getD_eq (z := (0 : Int)) (show 0 < xs40.length by omega); have := q.2.2; omega))⟩⟩)

end Go.Proofs.YtdpdjbfjjlpfgaaGreatDoor
