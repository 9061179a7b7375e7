/- spec.ParseMachine. -/
import Derived.Test.YtdpdjbfjjlpfgaaGreatDoorPpi
import Derived.Test.YtdpdjbfjjlpfgaaGreatDoorPth3
import Derived.Test.YtdpdjbfjjlpfgaaGreatDoorMtx3
namespace Go.Proofs.YtdpdjbfjjlpfgaaGreatDoor
open Go Go.RowKit

theorem maNumbers_n {lo hi n : Nat} (a0 : Option Addr) (c0 : Nat) (ws : List (List UInt8)) (w : World) (e : n = ws.length) (hW : WS lo hi w a0 c0 ws) (hhi : hi ≤ w.heap.size) (hn : ws.length ≤ 1048577) : Fn Tryz.prog 10 #[.slice a0 n c0] w (fun o9 w' => ∃ a c q xs, o9 = .tuple #[.slice a xs.length c, VB q] ∧ (q = true ∧ okNums gS ws ∧ xs = numsOf gS ws ∨ q = false ∧ ¬ okNums gS ws ∧ xs = []) ∧ OwnH w.heap.size w'.heap.size 0 0 w' 3 1 a xs.length c (xs.map VI) ∧ Ext w w') := by subst e; exact maNumbers_spec (B := 0) a0 c0 ws w hW hhi hn
theorem ints_drop {lo hi c : Nat} {w : World} {a : Option Addr} {xs : List Int} (h : Ints lo hi w a c xs) (j : Nat) (hj : j ≤ xs.length) : Ints lo hi w (if c = j then a else a.map (·.add (j * 1))) (c - j) (xs.drop j) := by
  have := ints_cut h j xs.length hj
  rwa [List.take_of_length_le (by rw [List.length_drop]; omega)] at this
theorem pInts.of {l r c : Nat} {w : World} {a : Option Addr} {xs : List Int} (h : Ints l r w a c xs) : (pInts a c xs).R w ∧ ∀ b, (pInts a c xs).a = some b → l ≤ b ∧ b < r := by
  by_cases e : xs = []
  · subst e
    exact ⟨⟨h.1, h.2, .inl rfl⟩, fun b hb => by simp [pInts] at hb⟩
  · have hn : 0 < (xs.map VI).length := by rw [List.length_map]; exact List.length_pos_iff.2 e
    obtain ⟨b, off, rfl, h1, h2, hc⟩ := h.sat.at hn
    refine ⟨⟨h.1, h.2, ?_⟩, fun b' hb => ?_⟩
    · have h3 := h.sat
      have e9 : ((xs.map fun x => [VI x])).flatten = xs.map VI := by
        clear h h3 hc hn e
        induction xs with
        | nil => rfl
        | cons x r ih => simp [ih]
      rw [e9]
      exact .inr ⟨b, off, rfl, Nat.le_refl _, Nat.lt_succ_self _, hc⟩
    · simp [pInts, e, blkOf] at hb; omega
def linesS (s : List UInt8) : List (List UInt8) := (spl 10 s).take ((spl 10 s).length - 1)
theorem linesS_len (s : List UInt8) : (linesS s).length = (spl 10 s).length - 1 := by unfold linesS; rw [List.length_take]; omega
theorem linesS_tot (s : List UInt8) : linesLen (linesS s) ≤ s.length := by
  have h1 := linesLen_spl (c := 10) (l := s)
  have h0 := spl_pos (c := 10) (l := s)
  have h2 := linesLen_at (ls := spl 10 s) (i := (spl 10 s).length - 1) (by omega)
  rw [show (spl 10 s).length - 1 + 1 = (spl 10 s).length by omega, List.take_length] at h2
  unfold linesS; omega
theorem linesS_text {m : Mach} (hm : MOk m) {s : List UInt8} (e : mtext (stD m m.output.length) = s) : linesS s = stD m m.output.length := by
  unfold linesS
  rw [← e, spl_text (st_ten hm)]
  simp
theorem pmS_none {s : List UInt8} (h : runM lineS 0 zeroM (linesS s) = none) (m : Mach) (hm : MOk m) : mtext (stD m m.output.length) ≠ s := fun e => by
  rw [linesS_text hm e, readerS.rt hm] at h; cases h
theorem pmS_some {s : List UInt8} {M : Mach} (h : runM lineS 0 zeroM (linesS s) = some M) (m : Mach) (hm : MOk m) (e : mtext (stD m m.output.length) = s) : m = M := by
  rw [linesS_text hm e, readerS.rt hm] at h; cases h; rfl

set_option maxRecDepth 100000 in
theorem l1Most_spec (a b : Int) (w : World) :
    Fn Tryz.prog 11 #[VI a, VI b] w (fun o9 w' => o9 = VI (max a b) ∧ Ext w w') := by
  have hE := Ext.refl w
  refine Fn_of Tryz.func11 rfl rfl (by kernel_rfl) rfl ?_
  refine W_seq ?_
  refine W_region ?_
  refine WL_q rfl (ev_assign rfl) ?_
  refine WL_nil ?_
  refine thenE_n ?_
  refine W_seq ?_
  refine W_seq ?_
  refine W_region ?_
  refine WL_q rfl (ev_move rfl) ?_
  refine WL_q rfl (ev_move rfl) ?_
  refine WL_q rfl (ev_gtr rfl rfl) ?_
  refine WL_nil ?_
  refine thenE_n ?_
  refine W_cond rfl (fun hg7 => ?_) (fun hg7 => ?_)
  · have hp7 := of_decide_eq_true hg7
    refine W_seq ?_
    refine W_region ?_
    refine WL_q rfl (ev_move rfl) ?_
    refine WL_q rfl (ev_assign rfl) ?_
    refine WL_nil ?_
    refine thenE_n ?_
    refine W_ret ?_
    refine thenE_r ?_
    refine ret1 rfl rfl ?_
    first | (exact ⟨vi (by omega), hE⟩)
  · have hp7 := of_decide_eq_false hg7
    refine W_skip ?_
    refine thenE_n ?_
    refine W_seq ?_
    refine W_region ?_
    refine WL_q rfl (ev_move rfl) ?_
    refine WL_q rfl (ev_assign rfl) ?_
    refine WL_nil ?_
    refine thenE_n ?_
    refine W_ret ?_
    refine ret1 rfl rfl ?_
    first | (exact ⟨vi (by omega), hE⟩)

theorem WS.rng {lo hi c : Nat} {w : World} {a : Option Addr} {ls : List (List UInt8)} (h : WS lo hi w a c ls) (hn : 0 < ls.length) : lo ≤ blkOf a ∧ blkOf a < hi := by
  obtain ⟨b, off, rfl, h1, h2, _⟩ := h.sat.at (by rw [List.length_map]; exact hn)
  exact ⟨h1, h2⟩
theorem OwnH.apd {l r p q sz n c : Nat} {w w' : World} {E : TypeId} {a a' : Option Addr} {cs : List Value} (h : OwnH l r p q w E sz a n c cs) (k : Apd w w' a') (hb : ∀ x z, a = some x → a' = some z → l ≤ x.block → x.block < r → x.block ≠ z.block) : OwnH l r p q w' E sz a n c cs :=
  ⟨h.1.keep k fun x hx => ⟨(h.1.block x hx).2, fun z hz => hb x z hx hz (h.1.block x hx).1 (h.2 x hx).1⟩, h.2⟩
theorem wS_cut {lo hi c : Nat} {w : World} {a : Option Addr} {l : List UInt8} (h : WS lo hi w a c (spl 32 l)) : WS lo hi w (if c = Int.toNat 1 then a else a.map (·.add (Int.toNat 1 * 1))) (c - Int.toNat 1) (wS l) := by
  have h1 := (h.take (max (thS l) 1)).drop 1 (by rw [List.length_take]; have := spl_pos (c := 32) (l := l); omega)
  exact h1
theorem wS_ln {l : List UInt8} {t : Nat} (ht : t = thS l) : (max (t : Int) 1).toNat - Int.toNat 1 = (wS l).length := by
  subst ht
  have h1 := thU_le (ws := spl 32 l) (Nat.le_refl _)
  have h2 := spl_pos (c := 32) (l := l)
  have h3 : thS l ≤ (spl 32 l).length := h1
  unfold wS
  rw [List.length_drop, List.length_take]
  show (max (thS l : Int) 1).toNat - 1 = _
  omega

set_option maxHeartbeats 1000000 in
set_option maxRecDepth 100000 in
theorem sParseMachine_spec (s : List UInt8) (w : World) (hs : s.length ≤ 1048576) :
    Fn Tryz.prog 4 #[.string (bs s)] w (fun o9 w' => ∃ h M q, o9 = .tuple #[machV h M, VB q] ∧ PMV s M q ∧ totM M ≤ 1048576 ∧ HM pInts w.heap.size w'.heap.size w' h M ∧ Ext w w') := by
  have hbl := bs_size s
  obtain ⟨ls, hls⟩ : ∃ ls, ls = linesS s := ⟨_, rfl⟩
  have hll := linesS_len s
  have hlt9 := linesS_tot s
  rw [← hls] at hll hlt9
  have hlg := linesLen_ge (ls := ls)
  have hsp := spl_pos (c := 10) (l := s)
  have hE := Ext.refl w
  refine Fn_of Tryz.func4 rfl rfl (by kernel_rfl) rfl ?_
  refine W_seq ?_
  refine W_region ?_
  refine WL_m rfl (ev_alloc zr26) ?_
  rintro _ w2 ⟨rfl, hN2⟩
  have hz2 := hN2.size
  replace hE := hE.trans hN2.ext
  have hB2 : Blk w2 _ _ [_, _, _, _, _, _, _] := hN2.blk
  refine WL_q rfl (ev_assign rfl) ?_
  refine WL_nil ?_
  refine thenE_n ?_
  refine W_seq ?_
  refine W_region ?_
  refine WL_q rfl (ev_move rfl) ?_
  refine WL_m rfl (ev_call rfl (l1Split_spec s 10 10 _ rfl hs)) ?_
  rintro _ w15 ⟨a15, c15, rfl, hW15, hE15⟩
  have hz15 := hE15.size
  replace hE := hE.trans hE15
  replace hB2 := hB2.ext hE15
  have hcp15 := hW15.cap
  refine WL_q rfl (ev_assign rfl) ?_
  refine WL_nil ?_
  refine thenE_n ?_
  refine W_seq ?_
  refine W_region ?_
  refine WL_m rfl (ev_alloc zr26) ?_
  rintro _ w5 ⟨rfl, hN5⟩
  have hz5 := hN5.size
  replace hE := hE.trans hN5.ext
  replace hB2 := hB2.ext hN5.ext
  replace hW15 := hW15.ext hN5.ext
  have hB5 : Blk w5 _ _ [_, _, _, _, _, _, _] := hN5.blk
  have hM : HM pInts (w15.heap.size + 1) w5.heap.size w5 ⟨none, 0, none, 0, none, 0, none, 0⟩ zeroM := (HM.zero (l := w15.heap.size + 1) (by omega)).up (Nat.le_refl _) (by omega) (Nat.le_refl _)
  have hWL : WS w2.heap.size w15.heap.size w5 a15 c15 ls := by rw [hls]; exact hW15.take _
  refine WL_nil ?_
  refine thenE_n ?_
  refine W_seq ?_
  refine W_seq ?_
  refine W_region ?_
  refine WL_q rfl (ev_move rfl) ?_
  refine WL_q rfl (ev_move rfl) ?_
  refine WL_q rfl (ev_len Tryz.underlying32 rfl) ?_
  refine WL_q rfl (ev_sub rfl rfl (by omega)) ?_
  refine WL_q rfl (ev_slice_hi Tryz.underlying32 sz9 rfl rfl (by omega) (by omega)) ?_
  refine WL_q rfl (ev_len Tryz.underlying32 rfl) ?_
  refine WL_q rfl (ev_move rfl) ?_
  refine WL_nil ?_
  refine thenE_n ?_
  refine W_block ?_
  refine W_loopC (G := Nat × MA × Mach) [(0, _), (2, _), (5, _), (20, _), (21, _)] ((Subs.c rfl (Subs.c rfl (Subs.c rfl (Subs.c rfl (Subs.c rfl Subs.n)))))) (fun ⟨i, h, M⟩ => [(22, VI (i : Int))]) (fun ⟨i, h, M⟩ w' => Lo (w15.heap.size) w5 w' ∧ i ≤ ls.length ∧ runM lineS 0 zeroM (ls.take i) = some M ∧ Blk w' w15.heap.size 26 (mCells h M) ∧ HM pInts (w15.heap.size + 1) w'.heap.size w' h M) (fun g => ls.length - g.1) (0, ⟨none, 0, none, 0, none, 0, none, 0⟩, zeroM) ((Subs.c (lkI rfl (by omega)) Subs.n)) (⟨Lo.refl (by omega), ⟨Nat.zero_le _, rfl, hB5, hM⟩⟩) ?_
  rintro ⟨i, ⟨a1, c1, a2, c2, a3, c3, a4, c4⟩, M⟩ wL0 ⟨hRL0, hi', hrun, hB5, hM⟩
  have hzL0 := hRL0.size
  replace hB2 := hB2.lo hRL0 (by omega)
  replace hE := hE.lo hRL0 (by omega)
  have htm := runM_tot (fun _ _ _ _ h => lineS_tot h) hrun
  have hlt := linesLen_take (ls := ls) i
  have htz : totM zeroM = 0 := rfl
  have htm9 : totM M ≤ 1048576 := by omega
  have hq1 := totL_len M.start
  have hq2 := totL_len M.send
  have hq3 := totC_len M.clauses
  have hm9 : totM M = totL M.start + totL M.send + totC M.clauses + M.output.length := rfl
  replace hWL := hWL.lo hRL0 (by omega)
  replace hB5 : Blk wL0 w15.heap.size 26 [VI M.deg, VI M.states, VI M.msgs, .slice a1 M.start.length c1, .slice a2 M.send.length c2, .slice a3 M.clauses.length c3, .slice a4 M.output.length c4] := hB5
  refine W_seq ?_
  refine W_region ?_
  refine WL_q rfl (ev_lss rfl rfl) ?_
  refine WL_nil ?_
  refine thenE_n ?_
  refine W_seq ?_
  refine W_cond rfl (fun hg23 => ?_) (fun hg23 => ?_)
  · have hp23 := of_decide_eq_true hg23
    refine W_skip ?_
    refine thenE_n ?_
    refine W_seq ?_
    refine W_block ?_
    refine W_seq ?_
    refine W_region ?_
    refine WL_q rfl (ev_move rfl) ?_
    have hil : i < ls.length := by omega
    have hla := linesLen_at hil
    have hlb := linesLen_take (ls := ls) (i + 1)
    obtain ⟨l, hlx⟩ : ∃ l, ls[i] = l := ⟨_, rfl⟩
    have hcl := hWL.cell hil
    rw [hlx] at hcl hla
    refine WL_q rfl (ev_indexAddr Tryz.underlying32 sz9 rfl rfl (hWL.isSome (by omega)) (by omega) (by omega)) ?_
    refine WL_q rfl (ev_load one9 rfl (hcl)) ?_
    refine WL_q rfl (ev_assign rfl) ?_
    refine WL_q rfl (ev_assign rfl) ?_
    refine WL_nil ?_
    refine thenE_n ?_
    refine W_seq ?_
    refine W_region ?_
    refine WL_q rfl (ev_move rfl) ?_
    refine WL_m rfl (ev_call rfl (l1Split_spec l 32 32 _ rfl (by omega))) ?_
    rintro _ w28 ⟨a28, c28, rfl, hW28, hE28⟩
    have hz28 := hE28.size
    replace hE := hE.trans hE28
    replace hRL0 := hRL0.trans hE28
    replace hB2 := hB2.ext hE28
    replace hWL := hWL.ext hE28
    replace hB5 := hB5.ext hE28
    replace hM := hM.ext hE28
    have hcp28 := hW28.cap
    have hsl := spl_len (c := 32) (l := l)
    have hsp2 := spl_pos (c := 32) (l := l)
    refine WL_q rfl (ev_assign rfl) ?_
    refine WL_nil ?_
    refine thenE_n ?_
    refine W_seq ?_
    refine W_region ?_
    refine WL_q rfl (ev_move rfl) ?_
    refine WL_q rfl (ev_len Tryz.underlying32 rfl) ?_
    refine WL_q rfl (ev_assign rfl) ?_
    refine WL_nil ?_
    refine thenE_n ?_
    refine W_seq ?_
    refine W_seq ?_
    refine W_region ?_
    refine WL_q rfl (ev_move rfl) ?_
    refine WL_q rfl (ev_len Tryz.underlying32 rfl) ?_
    refine WL_q rfl (ev_move rfl) ?_
    refine WL_nil ?_
    refine thenE_n ?_
    refine W_block ?_
    refine W_loopC (G := Nat) [(0, _), (2, _), (5, _), (6, _), (8, _), (20, _), (21, _), (22, _), (31, _), (32, _)] ((Subs.c rfl (Subs.c rfl (Subs.c rfl (Subs.c rfl (Subs.c rfl (Subs.c rfl (Subs.c rfl (Subs.c rfl (Subs.c rfl (Subs.c rfl Subs.n))))))))))) (fun j => [(9, VI (thU (spl 32 l) j : Int)), (33, VI (j : Int))]) (fun j w' => Ext w28 w' ∧ j ≤ (spl 32 l).length) (fun j => (spl 32 l).length - j) 0 ((Subs.c rfl (Subs.c (lkI rfl (by omega)) Subs.n))) (⟨Ext.refl _, Nat.zero_le _⟩) ?_
    rintro j wL2 ⟨hRL2, hj'⟩
    have hzL2 := hRL2.size
    replace hE := hE.trans hRL2
    replace hRL0 := hRL0.trans hRL2
    replace hB2 := hB2.ext hRL2
    replace hWL := hWL.ext hRL2
    replace hB5 := hB5.ext hRL2
    replace hM := hM.ext hRL2
    replace hW28 := hW28.ext hRL2
    refine W_seq ?_
    refine W_region ?_
    refine WL_q rfl (ev_lss rfl rfl) ?_
    refine WL_nil ?_
    refine thenE_n ?_
    refine W_seq ?_
    refine W_cond rfl (fun hg34 => ?_) (fun hg34 => ?_)
    · have hp34 := of_decide_eq_true hg34
      refine W_skip ?_
      refine thenE_n ?_
      refine W_seq ?_
      refine W_block ?_
      refine W_seq ?_
      refine W_region ?_
      refine WL_q rfl (ev_move rfl) ?_
      have hjl : j < (spl 32 l).length := by omega
      refine WL_q rfl (ev_indexAddr Tryz.underlying32 sz9 rfl rfl (hW28.isSome (by omega)) (by omega) (by omega)) ?_
      refine WL_q rfl (ev_load one9 rfl (hW28.cell hjl)) ?_
      refine WL_q rfl (ev_assign rfl) ?_
      refine WL_q rfl (ev_assign rfl) ?_
      refine WL_nil ?_
      refine thenE_n ?_
      refine W_seq ?_
      refine W_region ?_
      refine WL_q rfl (ev_move rfl) ?_
      refine WL_q rfl (ev_eql_str (b := [116, 104, 101, 110]) rfl rfl) ?_
      refine WL_nil ?_
      refine thenE_n ?_
      refine W_cond rfl (fun hg39 => ?_) (fun hg39 => ?_)
      · have hp39 := of_decide_eq_true hg39
        refine W_region ?_
        refine WL_q rfl (ev_move rfl) ?_
        refine WL_q rfl (ev_assign rfl) ?_
        refine WL_nil ?_
        refine blockE_n ?_
        refine thenE_n ?_
        refine W_region ?_
        refine WL_q rfl (ev_add rfl rfl (by omega)) ?_
        refine WL_q rfl (ev_move rfl) ?_
        refine WL_nil ?_
        refine thenE_n ?_
        exact ⟨j + 1, (Subs.c rfl (Subs.c rfl (Subs.c rfl (Subs.c rfl (Subs.c rfl (Subs.c rfl (Subs.c rfl (Subs.c rfl (Subs.c rfl (Subs.c rfl Subs.n)))))))))), (Subs.c (lkI rfl (by rw [thU_yes (h := hjl) hp39])) (Subs.c (lkI rfl (by omega)) Subs.n)), ⟨hRL2, by omega⟩, by first | omega | (dsimp only; omega)⟩
      · have hp39 := of_decide_eq_false hg39
        refine W_skip ?_
        refine blockE_n ?_
        refine thenE_n ?_
        refine W_region ?_
        refine WL_q rfl (ev_add rfl rfl (by omega)) ?_
        refine WL_q rfl (ev_move rfl) ?_
        refine WL_nil ?_
        refine thenE_n ?_
        exact ⟨j + 1, (Subs.c rfl (Subs.c rfl (Subs.c rfl (Subs.c rfl (Subs.c rfl (Subs.c rfl (Subs.c rfl (Subs.c rfl (Subs.c rfl (Subs.c rfl Subs.n)))))))))), (Subs.c (lkI rfl (by rw [thU_no (h := hjl) hp39])) (Subs.c (lkI rfl (by omega)) Subs.n)), ⟨hRL2, by omega⟩, by first | omega | (dsimp only; omega)⟩
    · have hp34 := of_decide_eq_false hg34
      refine W_exit ?_
      refine thenE_x ?_
      refine thenE_x ?_
      refine blockE_hit ?_
      refine thenE_n ?_
      refine W_seq ?_
      refine W_region ?_
      have hj9 : j = (spl 32 l).length := by omega
      have hth : thU (spl 32 l) j = thS l := by rw [hj9]; rfl
      have htl := thU_le (ws := spl 32 l) hj'
      have hwl := wS_ln hth
      have hwl2 := wS_len (l := l)
      have hwt := wT_len l
      refine WL_q rfl (ev_move rfl) ?_
      refine WL_q rfl (ev_move rfl) ?_
      refine WL_m rfl (ev_call rfl (l1Most_spec (thU (spl 32 l) j : Int) 1 _)) ?_
      rintro _ w45 ⟨rfl, hE45⟩
      have hz45 := hE45.size
      replace hE := hE.trans hE45
      replace hRL0 := hRL0.trans hE45
      replace hB2 := hB2.ext hE45
      replace hWL := hWL.ext hE45
      replace hB5 := hB5.ext hE45
      replace hM := hM.ext hE45
      replace hW28 := hW28.ext hE45
      refine WL_q rfl (ev_slice_lohi Tryz.underlying32 sz9 rfl rfl rfl (by omega) (by omega) (by omega)) ?_
      refine WL_m rfl (ev_call rfl (maNumbers_n _ _ (wS l) _ hwl (wS_cut hW28) (by omega) (by omega))) ?_
      rintro _ w47 ⟨a47, c47, q47, xs47, rfl, hq47, hO47, hE47⟩
      have hz47 := hE47.size
      replace hE := hE.trans hE47
      replace hRL0 := hRL0.trans hE47
      replace hB2 := hB2.ext hE47
      replace hWL := hWL.ext hE47
      replace hB5 := hB5.ext hE47
      replace hM := hM.ext hE47
      replace hW28 := hW28.ext hE47
      refine WL_q rfl (ev_move rfl) ?_
      refine WL_q rfl (ev_extract rfl rfl) ?_
      refine WL_q rfl (ev_extract rfl rfl) ?_
      refine WL_q rfl (ev_assign rfl) ?_
      refine WL_q rfl (ev_assign rfl) ?_
      refine WL_nil ?_
      refine thenE_n ?_
      refine W_seq ?_
      refine W_seq ?_
      refine W_region ?_
      refine WL_q rfl (ev_move rfl) ?_
      refine WL_q rfl (ev_not rfl) ?_
      refine WL_nil ?_
      refine thenE_n ?_
      refine W_cond rfl (fun hg51 => ?_) (fun hg51 => ?_)
      · have hg49 := not_true hg51
        refine W_seq ?_
        refine W_region ?_
        refine WL_q rfl (ev_buildP0 sn26_7 zr26 ) ?_
        refine WL_s (ev_stores sz26 rfl rfl rfl (by simp [Value.oneCell']) hB2 (by simp)) ?_
        rintro _ w16_1 hS16_1
        have hz16_1 := hS16_1.size
        replace hE := hE.sto hS16_1 (by omega)
        replace hWL := hWL.sto hS16_1 (by omega)
        replace hB5 := hB5.sto hS16_1 (by omega)
        replace hM := hM.sto hS16_1 (by omega)
        replace hW28 := hW28.sto hS16_1 (by omega)
        replace hO47 := hO47.sto hS16_1 (by omega)
        replace hB2 : Blk w16_1 _ _ [_, _, _, _, _, _, _] := hS16_1.blk
        refine WL_q rfl (ev_assign rfl) ?_
        refine WL_nil ?_
        refine thenE_n ?_
        refine W_ret ?_
        refine thenE_r ?_
        refine blockE_r ?_
        refine thenE_r ?_
        refine thenE_r ?_
        refine blockE_r ?_
        refine thenE_r ?_
        refine retc2 rfl rfl st26 sz26 (cellsB hB2) rfl rfl ?_
        exact ⟨⟨none, 0, none, 0, none, 0, none, 0⟩, zeroM, false, rfl, .inr ⟨rfl, rfl, (pmS_none (by rw [← hls]; exact runM_bad ((runM_take hil hrun).trans (by rw [hlx]; exact (lineS_bad (hq47.elim (fun e => absurd (e.1.symm.trans hg49) (by decide)) fun e => e.2.1))))))⟩, Nat.zero_le _, (HM.zero hE.size).up (Nat.le_refl _) hE.size (Nat.le_refl _), hE⟩
      · have hg49 := not_false hg51
        refine W_skip ?_
        refine thenE_n ?_
        refine W_block ?_
        obtain ⟨_, hok, hxs⟩ : q47 = true ∧ okNums gS (wS l) ∧ xs47 = numsOf gS (wS l) := hq47.elim id fun e => absurd (e.1.symm.trans hg49) (by decide)
        have hxn : xs47.length = (wS l).length := by rw [hxs, numsOf_len]
        have hcp47 := hO47.cap
        refine W_join (G := Unit) [(0, _), (2, _), (5, _), (8, _), (9, _), (12, _), (20, _), (21, _), (22, _)] ((Subs.c rfl (Subs.c rfl (Subs.c rfl (Subs.c rfl (Subs.c rfl (Subs.c rfl (Subs.c rfl (Subs.c rfl (Subs.c rfl Subs.n)))))))))) (fun _ => [(54, VB (decide (wH l = wMachine ∧ i = 0 ∧ xs47.length = 4)))]) (fun _ w' => Ext w47 w') ?_ ?_
        · have hRJr18 : Ext w47 w47 := Ext.refl _
          refine W_region ?_
          refine WL_q rfl (ev_move rfl) ?_
          refine WL_q rfl (ev_indexAddr Tryz.underlying32 sz9 rfl rfl (hW28.isSome (by omega)) (by omega) (by omega)) ?_
          refine WL_q rfl (ev_load one9 rfl (hW28.hd)) ?_
          refine WL_q rfl (ev_eql_str (b := [109, 97, 99, 104, 105, 110, 101]) rfl rfl) ?_
          refine WL_q rfl (ev_move rfl) ?_
          refine WL_splitv (t := 59) rfl (fun hg58 => ?_) (fun hg58 => ?_)
          · have hp58 := of_decide_eq_true hg58
            refine WL_qg rfl rfl hg58 rfl (ev_move rfl) ?_
            refine WL_qg rfl rfl hg58 rfl (ev_eql rfl rfl) ?_
            refine WL_q rfl (ev_pick_t rfl hg58 rfl) ?_
            refine WL_q rfl (ev_move rfl) ?_
            refine WL_splitv (t := 63) rfl (fun hg61 => ?_) (fun hg61 => ?_)
            · have hp61 := of_decide_eq_true hg61
              refine WL_qg rfl rfl hg61 rfl (ev_move rfl) ?_
              refine WL_qg rfl rfl hg61 rfl (ev_len Tryz.underlying24 rfl) ?_
              refine WL_qg rfl rfl hg61 rfl (ev_eql rfl rfl) ?_
              refine WL_q rfl (ev_pick_t rfl hg61 rfl) ?_
              refine WL_q rfl (ev_assign rfl) ?_
              refine WL_nil ?_
              refine thenE_n ?_
              exact ⟨(), (Subs.c rfl (Subs.c rfl (Subs.c rfl (Subs.c rfl (Subs.c rfl (Subs.c rfl (Subs.c rfl (Subs.c rfl (Subs.c rfl Subs.n))))))))), (Subs.c (lkB rfl (decide_eq_decide.2 ⟨fun e => ⟨hp58, by omega, by omega⟩, fun e => by have := e.2.2; omega⟩)) Subs.n), hRJr18⟩
            · have hp61 := of_decide_eq_false hg61
              refine WL_no rfl rfl hg61 rfl ?_
              refine WL_no rfl rfl hg61 rfl ?_
              refine WL_no rfl rfl hg61 rfl ?_
              refine WL_q rfl (ev_pick_f rfl hg61 rfl) ?_
              refine WL_q rfl (ev_assign rfl) ?_
              refine WL_nil ?_
              refine thenE_n ?_
              exact ⟨(), (Subs.c rfl (Subs.c rfl (Subs.c rfl (Subs.c rfl (Subs.c rfl (Subs.c rfl (Subs.c rfl (Subs.c rfl (Subs.c rfl Subs.n))))))))), (Subs.c (lkB rfl (decide_eq_false fun e => hp61 (by have := e.2.1; omega)).symm) Subs.n), hRJr18⟩
          · have hp58 := of_decide_eq_false hg58
            refine WL_no rfl rfl hg58 rfl ?_
            refine WL_no rfl rfl hg58 rfl ?_
            refine WL_q rfl (ev_pick_f rfl hg58 rfl) ?_
            refine WL_q rfl (ev_move rfl) ?_
            refine WL_no rfl rfl rfl rfl ?_
            refine WL_no rfl rfl rfl rfl ?_
            refine WL_no rfl rfl rfl rfl ?_
            refine WL_q rfl (ev_pick_f rfl rfl rfl) ?_
            refine WL_q rfl (ev_assign rfl) ?_
            refine WL_nil ?_
            refine thenE_n ?_
            exact ⟨(), (Subs.c rfl (Subs.c rfl (Subs.c rfl (Subs.c rfl (Subs.c rfl (Subs.c rfl (Subs.c rfl (Subs.c rfl (Subs.c rfl Subs.n))))))))), (Subs.c (lkB rfl (decide_eq_false fun e => hp58 e.1).symm) Subs.n), hRJr18⟩
        · rintro _ wJr18 hEJr18
          have hzJr18 := hEJr18.size
          replace hE := hE.trans hEJr18
          replace hRL0 := hRL0.trans hEJr18
          replace hB2 := hB2.ext hEJr18
          replace hWL := hWL.ext hEJr18
          replace hB5 := hB5.ext hEJr18
          replace hM := hM.ext hEJr18
          replace hW28 := hW28.ext hEJr18
          replace hO47 := hO47.ext hEJr18
          refine W_cond rfl (fun hg54 => ?_) (fun hg54 => ?_)
          · have hp54 := of_decide_eq_true hg54
            have hx4 := hp54.2.2
            refine W_seq ?_
            refine W_region ?_
            refine WL_q rfl (ev_move rfl) ?_
            refine WL_q rfl (ev_indexAddr Tryz.underlying24 sz3 rfl rfl ((ownt_i hO47).isSome (by omega)) (by omega) (by omega)) ?_
            refine WL_q rfl (ev_load one3 rfl ((ownt_i hO47).cell (i := 0) (by omega))) ?_
            refine WL_q rfl (ev_fieldAddr fo26_0 rfl) ?_
            refine WL_s (ev_store sz3 rfl rfl rfl hB5 (by simp)) ?_
            rintro _ w19_4 hS19_4
            have hz19_4 := hS19_4.size
            replace hE := hE.sto hS19_4 (by omega)
            replace hRL0 := hRL0.sto hS19_4 (by omega)
            replace hB2 := hB2.sto hS19_4 (by omega)
            replace hWL := hWL.sto hS19_4 (by omega)
            replace hM := hM.sto hS19_4 (by omega)
            replace hW28 := hW28.sto hS19_4 (by omega)
            replace hO47 := hO47.sto hS19_4 (by omega)
            replace hB5 : Blk w19_4 _ _ [_, _, _, _, _, _, _] := hS19_4.blk
            refine WL_nil ?_
            refine thenE_n ?_
            refine W_seq ?_
            refine W_region ?_
            refine WL_q rfl (ev_move rfl) ?_
            refine WL_q rfl (ev_indexAddr Tryz.underlying24 sz3 rfl rfl ((ownt_i hO47).isSome (by omega)) (by omega) (by omega)) ?_
            refine WL_q rfl (ev_load one3 rfl ((ownt_i hO47).cell (i := 1) (by omega))) ?_
            refine WL_q rfl (ev_fieldAddr fo26_1 rfl) ?_
            refine WL_s (ev_store sz3 rfl rfl rfl hB5 (by simp)) ?_
            rintro _ w20_4 hS20_4
            have hz20_4 := hS20_4.size
            replace hE := hE.sto hS20_4 (by omega)
            replace hRL0 := hRL0.sto hS20_4 (by omega)
            replace hB2 := hB2.sto hS20_4 (by omega)
            replace hWL := hWL.sto hS20_4 (by omega)
            replace hM := hM.sto hS20_4 (by omega)
            replace hW28 := hW28.sto hS20_4 (by omega)
            replace hO47 := hO47.sto hS20_4 (by omega)
            replace hB5 : Blk w20_4 _ _ [_, _, _, _, _, _, _] := hS20_4.blk
            refine WL_nil ?_
            refine thenE_n ?_
            refine W_seq ?_
            refine W_region ?_
            refine WL_q rfl (ev_move rfl) ?_
            refine WL_q rfl (ev_indexAddr Tryz.underlying24 sz3 rfl rfl ((ownt_i hO47).isSome (by omega)) (by omega) (by omega)) ?_
            refine WL_q rfl (ev_load one3 rfl ((ownt_i hO47).cell (i := 2) (by omega))) ?_
            refine WL_q rfl (ev_fieldAddr fo26_2 rfl) ?_
            refine WL_s (ev_store sz3 rfl rfl rfl hB5 (by simp)) ?_
            rintro _ w21_4 hS21_4
            have hz21_4 := hS21_4.size
            replace hE := hE.sto hS21_4 (by omega)
            replace hRL0 := hRL0.sto hS21_4 (by omega)
            replace hB2 := hB2.sto hS21_4 (by omega)
            replace hWL := hWL.sto hS21_4 (by omega)
            replace hM := hM.sto hS21_4 (by omega)
            replace hW28 := hW28.sto hS21_4 (by omega)
            replace hO47 := hO47.sto hS21_4 (by omega)
            replace hB5 : Blk w21_4 _ _ [_, _, _, _, _, _, _] := hS21_4.blk
            refine WL_nil ?_
            refine thenE_n ?_
            refine W_seq ?_
            refine W_seq ?_
            refine W_region ?_
            refine WL_q rfl (ev_move rfl) ?_
            refine WL_q rfl (ev_indexAddr Tryz.underlying24 sz3 rfl rfl ((ownt_i hO47).isSome (by omega)) (by omega) (by omega)) ?_
            refine WL_q rfl (ev_load one3 rfl ((ownt_i hO47).cell (i := 1) (by omega))) ?_
            refine WL_m rfl (ev_call rfl (l1In_spec _ _ _ _)) ?_
            rintro _ _ ⟨rfl, rfl⟩
            refine WL_q rfl (ev_not rfl) ?_
            refine WL_nil ?_
            refine thenE_n ?_
            refine W_cond rfl (fun hg84 => ?_) (fun hg84 => ?_)
            · have hg83 := not_true hg84
              have hp83 := inR_false.1 hg83
              refine W_seq ?_
              refine W_region ?_
              refine WL_q rfl (ev_buildP0 sn26_7 zr26 ) ?_
              refine WL_s (ev_stores sz26 rfl rfl rfl (by simp [Value.oneCell']) hB2 (by simp)) ?_
              rintro _ w23_1 hS23_1
              have hz23_1 := hS23_1.size
              replace hE := hE.sto hS23_1 (by omega)
              replace hWL := hWL.sto hS23_1 (by omega)
              replace hB5 := hB5.sto hS23_1 (by omega)
              replace hM := hM.sto hS23_1 (by omega)
              replace hW28 := hW28.sto hS23_1 (by omega)
              replace hO47 := hO47.sto hS23_1 (by omega)
              replace hB2 : Blk w23_1 _ _ [_, _, _, _, _, _, _] := hS23_1.blk
              refine WL_q rfl (ev_assign rfl) ?_
              refine WL_nil ?_
              refine thenE_n ?_
              refine W_ret ?_
              refine thenE_r ?_
              refine blockE_r ?_
              refine blockE_r ?_
              refine thenE_r ?_
              refine thenE_r ?_
              refine blockE_r ?_
              refine thenE_r ?_
              refine retc2 rfl rfl st26 sz26 (cellsB hB2) rfl rfl ?_
              exact ⟨⟨none, 0, none, 0, none, 0, none, 0⟩, zeroM, false, rfl, .inr ⟨rfl, rfl, (pmS_none (by rw [← hls]; exact runM_bad ((runM_take hil hrun).trans (by rw [hlx]; exact (lineS_mno hok hxs hp54 (by (have e0 := getD_eq (z := (0 : Int)) (show 0 < xs47.length by omega); have e1 := getD_eq (z := (0 : Int)) (show 1 < xs47.length by omega); omega)))))))⟩, Nat.zero_le _, (HM.zero hE.size).up (Nat.le_refl _) hE.size (Nat.le_refl _), hE⟩
            · have hg83 := not_false hg84
              have hp83 := inR_true.1 hg83
              refine W_skip ?_
              refine thenE_n ?_
              refine W_block ?_
              refine W_loopC (G := Nat × Option Addr × Nat) [(0, _), (2, _), (5, _), (12, _), (20, _), (21, _), (22, _)] ((Subs.c rfl (Subs.c rfl (Subs.c rfl (Subs.c rfl (Subs.c rfl (Subs.c rfl (Subs.c rfl Subs.n)))))))) (fun ⟨n, ao, co⟩ => []) (fun ⟨n, ao, co⟩ w' => Rg w15.heap.size wL0.heap.size 0 0 w21_4 w' ∧ (n = 0 ∨ (M.output.length + n : Int) ≤ xs47[1]'(by omega)) ∧ (∀ q, ao = some q → q.block < wL0.heap.size ∨ wJr18.heap.size ≤ q.block) ∧ Blk w' w15.heap.size 26 [VI (xs47[0]'(by omega)), VI (xs47[1]'(by omega)), VI (xs47[2]'(by omega)), .slice a1 M.start.length c1, .slice a2 M.send.length c2, .slice a3 M.clauses.length c3, .slice ao (M.output.length + n) co] ∧ HM pInts (w15.heap.size + 1) w'.heap.size w' ⟨a1, c1, a2, c2, a3, c3, ao, co⟩ { M with output := M.output ++ List.replicate n (-1) }) (fun g => 12 - g.1) (0, a4, c4) (Subs.n) (⟨Rg.refl, ⟨.inl rfl, fun q hq => .inl (hM.out4.2 q hq).1, hB5, by rw [List.replicate_zero, List.append_nil]; exact hM.up (Nat.le_refl _) (by omega) (Nat.le_refl _)⟩⟩) ?_
              rintro ⟨n, ao, co⟩ wL5 ⟨hRL5, hn9, hJo, hB5, hM⟩
              have hzL5 := hRL5.size
              replace hB2 := hB2.rg hRL5 (by omega)
              replace hWL := hWL.rg hRL5 (by omega)
              replace hO47 := hO47.rg hRL5 (by omega)
              replace hE := hE.rg hRL5 (by omega)
              replace hRL0 := hRL0.rg hRL5 (by omega)
              have hlo9 : (M.output ++ List.replicate n (-1)).length = M.output.length + n := by simp
              refine W_seq ?_
              refine W_seq ?_
              refine W_drawE [(0, true), (1, true), (2, true), (3, true), (4, true), (5, true), (6, true)] mixed (by kernel_rfl) rfl (by kernel_rfl) ?_
              intro wd24 hEd24 hzd24
              replace hE := hE.trans hEd24
              replace hRL0 := hRL0.trans hEd24
              replace hRL5 := hRL5.trans hEd24
              replace hB2 := hB2.ext hEd24
              replace hWL := hWL.ext hEd24
              replace hO47 := hO47.ext hEd24
              replace hB5 := hB5.ext hEd24
              replace hM := hM.ext hEd24
              have hDd24 := Ext.refl wd24
              refine PW_q rfl rfl (fun wq hq => ev_fieldAddr fo26_6 rfl) ?_
              refine PW_q rfl rfl (fun wq hq => ev_load one24 rfl (hq.cell (hB5.cell rfl))) ?_
              refine PW_q rfl rfl (fun wq hq => ev_len Tryz.underlying24 rfl) ?_
              refine PW_q rfl rfl (fun wq hq => ev_move rfl) ?_
              refine PW_q rfl rfl (fun wq hq => ev_indexAddr Tryz.underlying24 sz3 rfl rfl ((ownt_i hO47).isSome (by omega)) (by omega) (by omega)) ?_
              have hc91 := (ownt_i hO47).cell (i := 1) (by omega)
              refine PW_q rfl rfl (fun wq hq => ev_load one3 rfl (hq.cell (hc91))) ?_
              refine PW_q rfl rfl (fun wq hq => ev_lss rfl rfl) ?_
              refine PW_nil ?_
              refine thenE_n ?_
              refine W_cond rfl (fun hg92 => ?_) (fun hg92 => ?_)
              · have hp92 := of_decide_eq_true hg92
                refine W_skip ?_
                refine thenE_n ?_
                refine W_block ?_
                refine W_region ?_
                refine WL_q rfl (ev_fieldAddr fo26_6 rfl) ?_
                refine WL_q rfl (ev_load one24 rfl (hB5.cell rfl)) ?_
                refine WL_m rfl (ev_lit1 Tryz.underlying24 el3 (by decide) (by decide) rfl rfl) ?_
                rintro _ w95 ⟨rfl, hN95⟩
                have hz95 := hN95.size
                replace hE := hE.trans hN95.ext
                replace hRL0 := hRL0.trans hN95.ext
                replace hRL5 := hRL5.trans hN95.ext
                replace hB2 := hB2.ext hN95.ext
                replace hWL := hWL.ext hN95.ext
                replace hO47 := hO47.ext hN95.ext
                replace hB5 := hB5.ext hN95.ext
                replace hM := hM.ext hN95.ext
                have hB95 := hN95.blk
                have hP96 := hM.out4.1
                rw [show (Mach.output { M with output := M.output ++ List.replicate n (-1) }).length = M.output.length + n from hlo9] at hP96
                have hM0 := hM
                refine WL_m rfl (ev_append Tryz.underlying24 el3 rfl (by decide) rfl rfl hP96 (SAt.of_blk (cs := [_]) (ds := []) hB95) rfl (by simp [Value.oneCell']) (by omega) (by unfold maxLen; omega) (by omega)) ?_
                rintro _ w96 ⟨a96, c96, rfl, hO96, hK96, hQ96⟩
                have hz96 := hK96.size
                replace hE := hE.app hK96 (fun q hq => by have h1 := (hP96.block q hq).1; have h2 := hJo q hq; omega)
                replace hRL0 := hRL0.app hK96 (fun q hq => by have h1 := (hP96.block q hq).1; have h2 := hJo q hq; omega)
                replace hRL5 := hRL5.app hK96 (fun q hq => by have h1 := (hP96.block q hq).1; have h2 := hJo q hq; omega)
                replace hB2 := hB2.app hK96 (hP96) (by omega)
                replace hWL := hWL.app hK96 (hP96) (by omega)
                replace hO47 := (hO47.apd hK96 fun q z hq hz h2 h3 => by have h1 := hJo z hz; omega)
                replace hB5 := hB5.app hK96 (hP96) (by omega)
                have hP96 := hO96
                have e9 : M.output ++ List.replicate (n + 1) (-1) = (M.output ++ List.replicate n (-1)) ++ [-1] := by rw [List.replicate_succ', List.append_assoc]
                have hM := hM0.chOut (o' := M.output ++ List.replicate (n + 1) (-1)) hK96 (by rw [e9, List.map_append, List.length_append, hlo9]; exact hP96) hQ96 (by omega)
                refine WL_q rfl (ev_fieldAddr fo26_6 rfl) ?_
                refine WL_s (ev_store sz24 rfl rfl rfl hB5 (by simp)) ?_
                rintro _ w25_5 hS25_5
                have hz25_5 := hS25_5.size
                replace hE := hE.sto hS25_5 (by omega)
                replace hRL0 := hRL0.sto hS25_5 (by omega)
                replace hRL5 := hRL5.sto hS25_5 (by omega)
                replace hB2 := hB2.sto hS25_5 (by omega)
                replace hWL := hWL.sto hS25_5 (by omega)
                replace hO47 := hO47.sto hS25_5 (by omega)
                replace hM := hM.sto hS25_5 (by omega)
                replace hB5 : Blk w25_5 _ _ [_, _, _, _, _, _, _] := hS25_5.blk
                refine WL_nil ?_
                refine blockE_n ?_
                refine thenE_n ?_
                exact ⟨(n + 1, a96, c96), (Subs.c rfl (Subs.c rfl (Subs.c rfl (Subs.c rfl (Subs.c rfl (Subs.c rfl (Subs.c rfl Subs.n))))))), Subs.n, ⟨hRL5, ⟨.inr (by omega), fun q hq => (hQ96 q hq).elim (fun ⟨z, hz, e⟩ => by rw [e]; exact hJo z hz) fun h => .inr (by omega), hB5, hM.up (Nat.le_refl _) (by omega) (by omega)⟩⟩, by first | omega | (dsimp only; omega)⟩
              · have hp92 := of_decide_eq_false hg92
                refine W_exit ?_
                refine thenE_x ?_
                refine thenE_x ?_
                refine blockE_hit ?_
                refine blockE_n ?_
                refine blockE_n ?_
                refine thenE_n ?_
                refine W_region ?_
                refine WL_q rfl (ev_add rfl rfl (by omega)) ?_
                refine WL_q rfl (ev_move rfl) ?_
                refine WL_nil ?_
                refine thenE_n ?_
                have hnx : ∃ h9 M9, lineS i M l = some M9 ∧ Blk wd24 w15.heap.size 26 (mCells h9 M9) ∧ HM pInts (w15.heap.size + 1) wd24.heap.size wd24 h9 M9 := by
                  exact ⟨⟨a1, c1, a2, c2, a3, c3, ao, co⟩, hdM M xs47 (padO M.output (xs47.getD 1 0)), lineS_mach hok hxs hp54 (by have e0 := getD_eq (z := (0 : Int)) (show 0 < xs47.length by omega); have e1 := getD_eq (z := (0 : Int)) (show 1 < xs47.length by omega); omega), by (have e0 := getD_eq (z := (0 : Int)) (show 0 < xs47.length by omega); have e1 := getD_eq (z := (0 : Int)) (show 1 < xs47.length by omega); have e2 := getD_eq (z := (0 : Int)) (show 2 < xs47.length by omega); have hnn : n = xs47[1].toNat - M.output.length := (by omega); simp only [hdM, mCells, padO, e0, e1, e2, List.length_append, List.length_replicate]; rw [← hnn]; exact hB5), by (have e0 := getD_eq (z := (0 : Int)) (show 0 < xs47.length by omega); have e1 := getD_eq (z := (0 : Int)) (show 1 < xs47.length by omega); have e2 := getD_eq (z := (0 : Int)) (show 2 < xs47.length by omega); have hnn : n = xs47[1].toNat - M.output.length := (by omega); unfold hdM padO; rw [e0, e1, e2, ← hnn]; exact (hM.nums _ _ _).up (Nat.le_refl _) (by omega) (Nat.le_refl _))⟩
                obtain ⟨h9, M9, hln, hB9, hM9⟩ := hnx
                exact ⟨(i + 1, h9, M9), (Subs.c rfl (Subs.c rfl (Subs.c rfl (Subs.c rfl (Subs.c rfl Subs.n))))), (Subs.c (lkI rfl (by omega)) Subs.n), ⟨hRL0, ⟨by omega, (runM_take hil hrun).trans (by rw [hlx]; exact hln), hB9, hM9⟩⟩, by first | omega | (dsimp only; omega)⟩
          · have hp54 := of_decide_eq_false hg54
            refine W_seq ?_
            refine W_region ?_
            refine WL_q rfl (ev_move rfl) ?_
            refine WL_q rfl (ev_indexAddr Tryz.underlying32 sz9 rfl rfl (hW28.isSome (by omega)) (by omega) (by omega)) ?_
            refine WL_q rfl (ev_load one9 rfl (hW28.hd)) ?_
            refine WL_q rfl (ev_eql_str (b := [115, 116, 97, 114, 116]) rfl rfl) ?_
            refine WL_q rfl (ev_assign rfl) ?_
            refine WL_nil ?_
            refine thenE_n ?_
            refine W_cond rfl (fun hg102 => ?_) (fun hg102 => ?_)
            · have hp102 := of_decide_eq_true hg102
              refine W_region ?_
              refine WL_q rfl (ev_fieldAddr fo26_3 rfl) ?_
              refine WL_q rfl (ev_load one22 rfl (hB5.cell rfl)) ?_
              refine WL_q rfl (ev_move rfl) ?_
              refine WL_m rfl (ev_lit1 Tryz.underlying22 el24 (by decide) (by decide) rfl rfl) ?_
              rintro _ w106 ⟨rfl, hN106⟩
              have hz106 := hN106.size
              replace hE := hE.trans hN106.ext
              replace hRL0 := hRL0.trans hN106.ext
              replace hB2 := hB2.ext hN106.ext
              replace hWL := hWL.ext hN106.ext
              replace hB5 := hB5.ext hN106.ext
              replace hM := hM.ext hN106.ext
              replace hW28 := hW28.ext hN106.ext
              replace hO47 := hO47.ext hN106.ext
              have hB106 := hN106.blk
              obtain ⟨v1, v2, v3, hV⟩ := hM
              have hP107 := hV.out1.1
              refine WL_m rfl (ev_append Tryz.underlying22 el24 rfl (by decide) rfl rfl hP107 (SAt.of_blk (cs := [_]) (ds := []) hB106) rfl (by simp [Value.oneCell']) (by omega) (by unfold maxLen; omega) (by omega)) ?_
              rintro _ w107 ⟨a107, c107, rfl, hO107, hK107, hQ107⟩
              have hz107 := hK107.size
              replace hE := hE.app hK107 (fun q hq => by have := (hP107.block q hq).1; omega)
              replace hRL0 := hRL0.app hK107 (fun q hq => by have := (hP107.block q hq).1; omega)
              replace hB2 := hB2.app hK107 (hP107) (by omega)
              replace hWL := hWL.app hK107 (hP107) (by omega)
              replace hB5 := hB5.app hK107 (hP107) (by omega)
              have hP107 := hO107
              have hM := hV.addSt hO47 (by omega) hK107 hP107 hQ107
              refine WL_q rfl (ev_fieldAddr fo26_3 rfl) ?_
              refine WL_s (ev_store sz22 rfl rfl rfl hB5 (by simp)) ?_
              rintro _ w27_6 hS27_6
              have hz27_6 := hS27_6.size
              replace hE := hE.sto hS27_6 (by omega)
              replace hRL0 := hRL0.sto hS27_6 (by omega)
              replace hB2 := hB2.sto hS27_6 (by omega)
              replace hWL := hWL.sto hS27_6 (by omega)
              replace hM := hM.sto hS27_6 (by omega)
              replace hB5 : Blk w27_6 _ _ [_, _, _, _, _, _, _] := hS27_6.blk
              refine WL_nil ?_
              refine blockE_n ?_
              refine blockE_n ?_
              refine thenE_n ?_
              refine W_region ?_
              refine WL_q rfl (ev_add rfl rfl (by omega)) ?_
              refine WL_q rfl (ev_move rfl) ?_
              refine WL_nil ?_
              refine thenE_n ?_
              have hnx : ∃ h9 M9, lineS i M l = some M9 ∧ Blk w27_6 w15.heap.size 26 (mCells h9 M9) ∧ HM pInts (w15.heap.size + 1) w27_6.heap.size w27_6 h9 M9 := by
                exact ⟨⟨a107, c107, a2, c2, a3, c3, a4, c4⟩, addSt M xs47, lineS_start hok hxs hp54 hp102, by simpa [mCells, addSt] using hB5, hM.up (Nat.le_refl _) (by omega) (by omega)⟩
              obtain ⟨h9, M9, hln, hB9, hM9⟩ := hnx
              exact ⟨(i + 1, h9, M9), (Subs.c rfl (Subs.c rfl (Subs.c rfl (Subs.c rfl (Subs.c rfl Subs.n))))), (Subs.c (lkI rfl (by omega)) Subs.n), ⟨hRL0, ⟨by omega, (runM_take hil hrun).trans (by rw [hlx]; exact hln), hB9, hM9⟩⟩, by first | omega | (dsimp only; omega)⟩
            · have hp102 := of_decide_eq_false hg102
              refine W_seq ?_
              refine W_region ?_
              refine WL_q rfl (ev_move rfl) ?_
              refine WL_q rfl (ev_indexAddr Tryz.underlying32 sz9 rfl rfl (hW28.isSome (by omega)) (by omega) (by omega)) ?_
              refine WL_q rfl (ev_load one9 rfl (hW28.hd)) ?_
              refine WL_q rfl (ev_eql_str (b := [115, 101, 110, 100]) rfl rfl) ?_
              refine WL_q rfl (ev_assign rfl) ?_
              refine WL_nil ?_
              refine thenE_n ?_
              refine W_cond rfl (fun hg113 => ?_) (fun hg113 => ?_)
              · have hp113 := of_decide_eq_true hg113
                refine W_region ?_
                refine WL_q rfl (ev_fieldAddr fo26_4 rfl) ?_
                refine WL_q rfl (ev_load one22 rfl (hB5.cell rfl)) ?_
                refine WL_q rfl (ev_move rfl) ?_
                refine WL_m rfl (ev_lit1 Tryz.underlying22 el24 (by decide) (by decide) rfl rfl) ?_
                rintro _ w117 ⟨rfl, hN117⟩
                have hz117 := hN117.size
                replace hE := hE.trans hN117.ext
                replace hRL0 := hRL0.trans hN117.ext
                replace hB2 := hB2.ext hN117.ext
                replace hWL := hWL.ext hN117.ext
                replace hB5 := hB5.ext hN117.ext
                replace hM := hM.ext hN117.ext
                replace hW28 := hW28.ext hN117.ext
                replace hO47 := hO47.ext hN117.ext
                have hB117 := hN117.blk
                obtain ⟨v1, v2, v3, hV⟩ := hM
                have hP118 := hV.out2.1
                refine WL_m rfl (ev_append Tryz.underlying22 el24 rfl (by decide) rfl rfl hP118 (SAt.of_blk (cs := [_]) (ds := []) hB117) rfl (by simp [Value.oneCell']) (by omega) (by unfold maxLen; omega) (by omega)) ?_
                rintro _ w118 ⟨a118, c118, rfl, hO118, hK118, hQ118⟩
                have hz118 := hK118.size
                replace hE := hE.app hK118 (fun q hq => by have := (hP118.block q hq).1; omega)
                replace hRL0 := hRL0.app hK118 (fun q hq => by have := (hP118.block q hq).1; omega)
                replace hB2 := hB2.app hK118 (hP118) (by omega)
                replace hWL := hWL.app hK118 (hP118) (by omega)
                replace hB5 := hB5.app hK118 (hP118) (by omega)
                have hP118 := hO118
                have hM := hV.addSe hO47 (by omega) hK118 hP118 hQ118
                refine WL_q rfl (ev_fieldAddr fo26_4 rfl) ?_
                refine WL_s (ev_store sz22 rfl rfl rfl hB5 (by simp)) ?_
                rintro _ w29_6 hS29_6
                have hz29_6 := hS29_6.size
                replace hE := hE.sto hS29_6 (by omega)
                replace hRL0 := hRL0.sto hS29_6 (by omega)
                replace hB2 := hB2.sto hS29_6 (by omega)
                replace hWL := hWL.sto hS29_6 (by omega)
                replace hM := hM.sto hS29_6 (by omega)
                replace hB5 : Blk w29_6 _ _ [_, _, _, _, _, _, _] := hS29_6.blk
                refine WL_nil ?_
                refine blockE_n ?_
                refine blockE_n ?_
                refine thenE_n ?_
                refine W_region ?_
                refine WL_q rfl (ev_add rfl rfl (by omega)) ?_
                refine WL_q rfl (ev_move rfl) ?_
                refine WL_nil ?_
                refine thenE_n ?_
                have hnx : ∃ h9 M9, lineS i M l = some M9 ∧ Blk w29_6 w15.heap.size 26 (mCells h9 M9) ∧ HM pInts (w15.heap.size + 1) w29_6.heap.size w29_6 h9 M9 := by
                  exact ⟨⟨a1, c1, a118, c118, a3, c3, a4, c4⟩, addSe M xs47, lineS_send hok hxs hp54 hp102 hp113, by simpa [mCells, addSe] using hB5, hM.up (Nat.le_refl _) (by omega) (by omega)⟩
                obtain ⟨h9, M9, hln, hB9, hM9⟩ := hnx
                exact ⟨(i + 1, h9, M9), (Subs.c rfl (Subs.c rfl (Subs.c rfl (Subs.c rfl (Subs.c rfl Subs.n))))), (Subs.c (lkI rfl (by omega)) Subs.n), ⟨hRL0, ⟨by omega, (runM_take hil hrun).trans (by rw [hlx]; exact hln), hB9, hM9⟩⟩, by first | omega | (dsimp only; omega)⟩
              · have hp113 := of_decide_eq_false hg113
                refine W_join (G := Unit) [(0, _), (2, _), (5, _), (8, _), (9, _), (12, _), (20, _), (21, _), (22, _)] ((Subs.c rfl (Subs.c rfl (Subs.c rfl (Subs.c rfl (Subs.c rfl (Subs.c rfl (Subs.c rfl (Subs.c rfl (Subs.c rfl Subs.n)))))))))) (fun _ => [(120, VB (decide (wH l = wWhen ∧ 0 < xs47.length ∧ thS l + 2 = (spl 32 l).length)))]) (fun _ w' => Ext wJr18 w') ?_ ?_
                · have hRJr30 : Ext wJr18 wJr18 := Ext.refl _
                  refine W_region ?_
                  refine WL_q rfl (ev_move rfl) ?_
                  refine WL_q rfl (ev_indexAddr Tryz.underlying32 sz9 rfl rfl (hW28.isSome (by omega)) (by omega) (by omega)) ?_
                  refine WL_q rfl (ev_load one9 rfl (hW28.hd)) ?_
                  refine WL_q rfl (ev_eql_str (b := [119, 104, 101, 110]) rfl rfl) ?_
                  refine WL_q rfl (ev_move rfl) ?_
                  refine WL_splitv (t := 125) rfl (fun hg124 => ?_) (fun hg124 => ?_)
                  · have hp124 := of_decide_eq_true hg124
                    refine WL_qg rfl rfl hg124 rfl (ev_move rfl) ?_
                    refine WL_qg rfl rfl hg124 rfl (ev_len Tryz.underlying24 rfl) ?_
                    refine WL_qg rfl rfl hg124 rfl (ev_gtr rfl rfl) ?_
                    refine WL_q rfl (ev_pick_t rfl hg124 rfl) ?_
                    refine WL_q rfl (ev_move rfl) ?_
                    refine WL_splitv (t := 130) rfl (fun hg128 => ?_) (fun hg128 => ?_)
                    · have hp128 := of_decide_eq_true hg128
                      refine WL_qg rfl rfl hg128 rfl (ev_move rfl) ?_
                      refine WL_qg rfl rfl hg128 rfl (ev_move rfl) ?_
                      refine WL_qg rfl rfl hg128 rfl (ev_len Tryz.underlying32 rfl) ?_
                      refine WL_qg rfl rfl hg128 rfl (ev_sub rfl rfl (by omega)) ?_
                      refine WL_qg rfl rfl hg128 rfl (ev_eql rfl rfl) ?_
                      refine WL_q rfl (ev_pick_t rfl hg128 rfl) ?_
                      refine WL_q rfl (ev_assign rfl) ?_
                      refine WL_nil ?_
                      refine thenE_n ?_
                      exact ⟨(), (Subs.c rfl (Subs.c rfl (Subs.c rfl (Subs.c rfl (Subs.c rfl (Subs.c rfl (Subs.c rfl (Subs.c rfl (Subs.c rfl Subs.n))))))))), (Subs.c (lkB rfl (decide_eq_decide.2 ⟨fun e => ⟨hp124, by omega, by omega⟩, fun e => by have := e.2.2; omega⟩)) Subs.n), hRJr30⟩
                    · have hp128 := of_decide_eq_false hg128
                      refine WL_no rfl rfl hg128 rfl ?_
                      refine WL_no rfl rfl hg128 rfl ?_
                      refine WL_no rfl rfl hg128 rfl ?_
                      refine WL_no rfl rfl hg128 rfl ?_
                      refine WL_no rfl rfl hg128 rfl ?_
                      refine WL_q rfl (ev_pick_f rfl hg128 rfl) ?_
                      refine WL_q rfl (ev_assign rfl) ?_
                      refine WL_nil ?_
                      refine thenE_n ?_
                      exact ⟨(), (Subs.c rfl (Subs.c rfl (Subs.c rfl (Subs.c rfl (Subs.c rfl (Subs.c rfl (Subs.c rfl (Subs.c rfl (Subs.c rfl Subs.n))))))))), (Subs.c (lkB rfl (decide_eq_false fun e => hp128 (by have := e.2.1; omega)).symm) Subs.n), hRJr30⟩
                  · have hp124 := of_decide_eq_false hg124
                    refine WL_no rfl rfl hg124 rfl ?_
                    refine WL_no rfl rfl hg124 rfl ?_
                    refine WL_no rfl rfl hg124 rfl ?_
                    refine WL_q rfl (ev_pick_f rfl hg124 rfl) ?_
                    refine WL_q rfl (ev_move rfl) ?_
                    refine WL_no rfl rfl rfl rfl ?_
                    refine WL_no rfl rfl rfl rfl ?_
                    refine WL_no rfl rfl rfl rfl ?_
                    refine WL_no rfl rfl rfl rfl ?_
                    refine WL_no rfl rfl rfl rfl ?_
                    refine WL_q rfl (ev_pick_f rfl rfl rfl) ?_
                    refine WL_q rfl (ev_assign rfl) ?_
                    refine WL_nil ?_
                    refine thenE_n ?_
                    exact ⟨(), (Subs.c rfl (Subs.c rfl (Subs.c rfl (Subs.c rfl (Subs.c rfl (Subs.c rfl (Subs.c rfl (Subs.c rfl (Subs.c rfl Subs.n))))))))), (Subs.c (lkB rfl (decide_eq_false fun e => hp124 e.1).symm) Subs.n), hRJr30⟩
                · rintro _ wJr30 hEJr30
                  have hzJr30 := hEJr30.size
                  replace hE := hE.trans hEJr30
                  replace hRL0 := hRL0.trans hEJr30
                  replace hB2 := hB2.ext hEJr30
                  replace hWL := hWL.ext hEJr30
                  replace hB5 := hB5.ext hEJr30
                  replace hM := hM.ext hEJr30
                  replace hW28 := hW28.ext hEJr30
                  replace hO47 := hO47.ext hEJr30
                  refine W_cond rfl (fun hg120 => ?_) (fun hg120 => ?_)
                  · have hp120 := of_decide_eq_true hg120
                    have hx1 := hp120.2.1
                    have hx2 := hp120.2.2
                    refine W_drawY (X := MA) (fun x => []) (fun x w' => Blk w' w15.heap.size 26 (mCells x (addCl M (xs47[0]'(by omega), xs47.drop 1, rdS ((spl 32 l)[((thU (spl 32 l) j : Int) + 1).toNat]'(by omega))))) ∧ HM pInts (w15.heap.size + 1) w'.heap.size w' x (addCl M (xs47[0]'(by omega), xs47.drop 1, rdS ((spl 32 l)[((thU (spl 32 l) j : Int) + 1).toNat]'(by omega)))) ∧ Lo (w15.heap.size) w5 w' ∧ Ext w w') 17 (w15.heap.size + 1) wL0.heap.size 0 0 w15.heap.size wL0.heap.size 0 0 (.q 0 (.q 1 (.q 2 (.q 3 (.q 4 (.q 5 (.q 6 (.q 7 (.q 8 (.q 9 (.q 10 (.q 11 (.a 12 (.q 13 (.a 14 (.a 15 (.q 16 (.z 17 .done)))))))))))))))))) mixed (by kernel_rfl) rfl (by kernel_rfl) ?_ ?_
                    · intro wd31 hEd31 hzd31
                      replace hE := hE.trans hEd31
                      replace hRL0 := hRL0.trans hEd31
                      replace hB2 := hB2.ext hEd31
                      replace hWL := hWL.ext hEd31
                      replace hB5 := hB5.ext hEd31
                      replace hM := hM.ext hEd31
                      replace hW28 := hW28.ext hEd31
                      replace hO47 := hO47.ext hEd31
                      have hrg28 := hW28.rng hsp2
                      have hSd31 := (Rg.refl : Rg (w15.heap.size + 1) wL0.heap.size 0 0 wd31 wd31)
                      have hUd31 := (Rg.refl : Rg w15.heap.size wL0.heap.size 0 0 wd31 wd31)
                      refine PY_q rfl rfl (fun wq hq => ev_fieldAddr fo26_5 rfl) ?_
                      refine PY_q rfl rfl (fun wq hq => ev_load one23 rfl ((hB5.rg hq.1 (by omega)).cell rfl)) ?_
                      refine PY_q rfl rfl (fun wq hq => ev_move rfl) ?_
                      refine PY_q rfl rfl (fun wq hq => ev_indexAddr Tryz.underlying24 sz3 rfl rfl ((ownt_i hO47).isSome (by omega)) (by omega) (by omega)) ?_
                      refine PY_q rfl rfl (fun wq hq => ev_load one3 rfl (((ownt_i hO47).rg hq.1 (by omega)).cellJ (i := 0) (j := Int.toNat ((0 : Nat) : Int)) (by omega) (by omega))) ?_
                      refine PY_q rfl rfl (fun wq hq => ev_move rfl) ?_
                      refine PY_q rfl rfl (fun wq hq => ev_slice_lo Tryz.underlying24 sz3 rfl rfl (by omega) (by omega) (by omega)) ?_
                      refine PY_q rfl rfl (fun wq hq => ev_move rfl) ?_
                      refine PY_q rfl rfl (fun wq hq => ev_move rfl) ?_
                      refine PY_q rfl rfl (fun wq hq => ev_add rfl rfl (by omega)) ?_
                      refine PY_q rfl rfl (fun wq hq => ev_indexAddr Tryz.underlying32 sz9 rfl rfl (hW28.isSome (by omega)) (by omega) (by omega)) ?_
                      refine PY_q rfl rfl (fun wq hq => ev_load one9 rfl (hq.1.cell' (hW28.cell (i := ((thU (spl 32 l) j : Int) + 1).toNat) (by omega)) (by omega))) ?_
                      refine PY_a ?_
                      refine PB_m (w15.heap.size + 1) wL0.heap.size 0 0 w15.heap.size wL0.heap.size 0 0 rfl rfl (ev_call rfl (l1Read_spec _ _)) ?_
                      rintro _ w149 ⟨rfl, hE149⟩
                      have hz149 := hE149.size
                      replace hE := hE.trans hE149
                      replace hRL0 := hRL0.trans hE149
                      replace hSd31 := hSd31.trans hE149
                      replace hUd31 := hUd31.trans hE149
                      replace hB2 := hB2.ext hE149
                      replace hWL := hWL.ext hE149
                      replace hB5 := hB5.ext hE149
                      replace hM := hM.ext hE149
                      replace hW28 := hW28.ext hE149
                      replace hO47 := hO47.ext hE149
                      refine ⟨fun _ hx => ⟨hSd31.rg hx (by omega), trivial⟩, fun _ hx => ⟨hUd31.rg hx (by omega), trivial⟩, ?_⟩
                      have hSd31 := (Rg.refl : Rg (w15.heap.size + 1) wL0.heap.size 0 0 w149 w149)
                      have hUd31 := (Rg.refl : Rg w15.heap.size wL0.heap.size 0 0 w149 w149)
                      refine PY_q rfl rfl (fun wq hq => ev_build3 sn40_3 rfl rfl rfl rfl rfl rfl) ?_
                      refine PY_a ?_
                      refine PB_m (w15.heap.size + 1) wL0.heap.size 0 0 w15.heap.size wL0.heap.size 0 0 rfl rfl (ev_lit1 Tryz.underlying23 el40 (by decide) (by decide) rfl rfl) ?_
                      rintro _ w151 ⟨rfl, hN151⟩
                      have hz151 := hN151.size
                      replace hE := hE.trans hN151.ext
                      replace hRL0 := hRL0.trans hN151.ext
                      replace hSd31 := hSd31.trans hN151.ext
                      replace hUd31 := hUd31.trans hN151.ext
                      replace hB2 := hB2.ext hN151.ext
                      replace hWL := hWL.ext hN151.ext
                      replace hB5 := hB5.ext hN151.ext
                      replace hM := hM.ext hN151.ext
                      replace hW28 := hW28.ext hN151.ext
                      replace hO47 := hO47.ext hN151.ext
                      have hB151 := hN151.blk
                      refine ⟨fun _ hx => ⟨hSd31.rg hx (by omega), trivial⟩, fun _ hx => ⟨hUd31.rg hx (by omega), trivial⟩, ?_⟩
                      have hSd31 := (Rg.refl : Rg (w15.heap.size + 1) wL0.heap.size 0 0 w151 w151)
                      have hUd31 := (Rg.refl : Rg w15.heap.size wL0.heap.size 0 0 w151 w151)
                      refine PY_a ?_
                      obtain ⟨v1, v2, v3, hV⟩ := hM
                      have hP152 := hV.out3.1
                      have hT152 := hV.out3.2
                      refine PB_m (w15.heap.size + 1) wL0.heap.size 0 0 w15.heap.size wL0.heap.size 0 0 rfl rfl (ev_append Tryz.underlying23 el40 rfl (by decide) rfl rfl hP152 (SAt.of_blk (cs := [_, _, _]) (ds := []) hB151) rfl (by simp [Value.oneCell']) (by omega) (by unfold maxLen; omega) (by omega)) ?_
                      rintro _ w152 ⟨a152, c152, rfl, hO152, hK152, hQ152⟩
                      have hz152 := hK152.size
                      replace hE := hE.app hK152 (fun q hq => by have h1 := (hP152.block q hq).1; have h2 := (hT152 q hq).1; omega)
                      replace hRL0 := hRL0.app hK152 (fun q hq => by have h1 := (hP152.block q hq).1; have h2 := (hT152 q hq).1; omega)
                      replace hSd31 := hSd31.app hK152 (fun q hq => by have h1 := (hP152.block q hq).1; have h2 := (hT152 q hq).1; omega)
                      replace hUd31 := hUd31.app hK152 (fun q hq => by have h1 := (hP152.block q hq).1; have h2 := (hT152 q hq).1; omega)
                      replace hB2 := hB2.app hK152 (hP152) (by omega)
                      replace hWL := hWL.app hK152 (hP152) (by omega)
                      replace hB5 := hB5.app hK152 (hP152) (by omega)
                      have hP152 := hO152
                      have hM := hV.addCl (r' := w47.heap.size) (y := (xs47[0]'(by omega), xs47.drop 1, rdS ((spl 32 l)[((thU (spl 32 l) j : Int) + 1).toNat]'(by omega)))) (pInts.of ((ints_drop (ownt_is hO47) 1 (by omega)).mono (by omega) (by omega))) ⟨by omega, by omega, by omega⟩ hK152 (by simp only [List.length_drop]; exact hP152) hQ152
                      refine ⟨fun _ hx => ⟨hSd31.rg hx (by omega), trivial⟩, fun _ hx => ⟨hUd31.rg hx (by omega), trivial⟩, ?_⟩
                      have hSd31 := (Rg.refl : Rg (w15.heap.size + 1) wL0.heap.size 0 0 w152 w152)
                      have hUd31 := (Rg.refl : Rg w15.heap.size wL0.heap.size 0 0 w152 w152)
                      refine PY_q rfl rfl (fun wq hq => ev_fieldAddr fo26_5 rfl) ?_
                      refine PY_z ?_
                      refine PB_s w15.heap.size wL0.heap.size 0 0 w15.heap.size wL0.heap.size 0 0 rfl (ev_store sz23 rfl rfl rfl hB5 (by simp)) ?_
                      rintro _ w31_17 hS31_17
                      have hz31_17 := hS31_17.size
                      replace hE := hE.sto hS31_17 (by omega)
                      replace hRL0 := hRL0.sto hS31_17 (by omega)
                      replace hUd31 := hUd31.sto hS31_17 (by omega)
                      replace hB2 := hB2.sto hS31_17 (by omega)
                      replace hWL := hWL.sto hS31_17 (by omega)
                      replace hM := hM.sto hS31_17 (by omega)
                      replace hB5 : Blk w31_17 _ _ [_, _, _, _, _, _, _] := hS31_17.blk
                      refine ⟨fun _ _ => trivial, fun _ hx => ⟨hUd31.rg hx (by omega), trivial⟩, ?_⟩
                      have hSd31 := (Rg.refl : Rg w15.heap.size wL0.heap.size 0 0 w31_17 w31_17)
                      have hUd31 := (Rg.refl : Rg w15.heap.size wL0.heap.size 0 0 w31_17 w31_17)
                      exact PY_nil 17 ⟨a1, c1, a2, c2, a152, c152, a4, c4⟩ rfl trivial rfl ⟨by simpa [mCells, addCl] using hB5, hM.up (Nat.le_refl _) (by omega) (by omega), hRL0, hE⟩
                    rintro h8 wt31 ⟨hB5, hM, hRL0, hE⟩
                    dsimp only [List.cons_append, List.nil_append]
                    have hcx : some (addCl M (xs47.getD 0 0, xs47.drop 1, rdS ((spl 32 l).getD (thS l + 1) []))) = some (addCl M (xs47[0]'(by omega), xs47.drop 1, rdS ((spl 32 l)[((thU (spl 32 l) j : Int) + 1).toNat]'(by omega)))) := by rw [← hth, getD_eq (show 0 < xs47.length by omega), getD_eq (show thU (spl 32 l) j + 1 < (spl 32 l).length by omega)]; simp only [show ((thU (spl 32 l) j : Int) + 1).toNat = thU (spl 32 l) j + 1 by omega]
                    refine blockE_n ?_
                    refine blockE_n ?_
                    refine thenE_n ?_
                    refine W_region ?_
                    refine WL_q rfl (ev_add rfl rfl (by omega)) ?_
                    refine WL_q rfl (ev_move rfl) ?_
                    refine WL_nil ?_
                    refine thenE_n ?_
                    have hnx : ∃ h9 M9, lineS i M l = some M9 ∧ Blk wt31 w15.heap.size 26 (mCells h9 M9) ∧ HM pInts (w15.heap.size + 1) wt31.heap.size wt31 h9 M9 := by
                      exact ⟨h8, _, (lineS_when hok hxs hp54 hp102 hp113 hp120).trans hcx, hB5, hM⟩
                    obtain ⟨h9, M9, hln, hB9, hM9⟩ := hnx
                    exact ⟨(i + 1, h9, M9), (Subs.c rfl (Subs.c rfl (Subs.c rfl (Subs.c rfl (Subs.c rfl Subs.n))))), (Subs.c (lkI rfl (by omega)) Subs.n), ⟨hRL0, ⟨by omega, (runM_take hil hrun).trans (by rw [hlx]; exact hln), hB9, hM9⟩⟩, by first | omega | (dsimp only; omega)⟩
                  · have hp120 := of_decide_eq_false hg120
                    refine W_join (G := Unit) [(0, _), (2, _), (5, _), (12, _), (20, _), (21, _), (22, _)] ((Subs.c rfl (Subs.c rfl (Subs.c rfl (Subs.c rfl (Subs.c rfl (Subs.c rfl (Subs.c rfl Subs.n)))))))) (fun _ => [(154, VB (decide (wH l = wGive ∧ xs47.length = 2 ∧ 0 ≤ xs47.getD 0 0 ∧ xs47.getD 0 0 ≤ (M.output.length : Int) - 1)))]) (fun _ w' => Ext wJr30 w') ?_ ?_
                    · have hRJr32 : Ext wJr30 wJr30 := Ext.refl _
                      refine W_drawE [(0, true), (1, true), (2, true), (3, true), (4, true), (5, true), (6, true), (7, true), (8, true), (9, true), (10, true), (11, true), (12, true), (13, true), (14, true), (15, true), (16, true), (17, false), (18, true), (19, true)] mixed (by kernel_rfl) rfl (by kernel_rfl) ?_
                      intro wd32 hEd32 hzd32
                      replace hE := hE.trans hEd32
                      replace hRL0 := hRL0.trans hEd32
                      replace hRJr32 := hRJr32.trans hEd32
                      replace hB2 := hB2.ext hEd32
                      replace hWL := hWL.ext hEd32
                      replace hB5 := hB5.ext hEd32
                      replace hM := hM.ext hEd32
                      replace hW28 := hW28.ext hEd32
                      replace hO47 := hO47.ext hEd32
                      have hDd32 := Ext.refl wd32
                      refine PW_q rfl rfl (fun wq hq => ev_move rfl) ?_
                      refine PW_q rfl rfl (fun wq hq => ev_indexAddr Tryz.underlying32 sz9 rfl rfl (hW28.isSome (by omega)) (by omega) (by omega)) ?_
                      refine PW_q rfl rfl (fun wq hq => ev_load one9 rfl (hq.cell (hW28.hd))) ?_
                      refine PW_q rfl rfl (fun wq hq => ev_eql_str (b := [103, 105, 118, 101]) rfl rfl) ?_
                      refine PW_q rfl rfl (fun wq hq => ev_move rfl) ?_
                      refine PW_splitv (t := 159) rfl (fun hg158 => ?_) (fun hg158 => ?_)
                      · have hp158 := of_decide_eq_true hg158
                        refine PW_qg rfl rfl rfl hg158 rfl (fun wq hq => ev_move rfl) ?_
                        refine PW_qg rfl rfl rfl hg158 rfl (fun wq hq => ev_len Tryz.underlying24 rfl) ?_
                        refine PW_qg rfl rfl rfl hg158 rfl (fun wq hq => ev_eql rfl rfl) ?_
                        refine PW_q rfl rfl (fun wq hq => ev_pick_t rfl hg158 rfl) ?_
                        refine PW_q rfl rfl (fun wq hq => ev_move rfl) ?_
                        refine PW_splitv (t := 164) rfl (fun hg162 => ?_) (fun hg162 => ?_)
                        · have hp162 := of_decide_eq_true hg162
                          refine PW_qg rfl rfl rfl hg162 rfl (fun wq hq => ev_move rfl) ?_
                          refine PW_qg rfl rfl rfl hg162 rfl (fun wq hq => ev_indexAddr Tryz.underlying24 sz3 rfl rfl ((ownt_i hO47).isSome (by omega)) (by omega) (by omega)) ?_
                          have hc167 := (ownt_i hO47).cell (i := 0) (by omega)
                          refine PW_qg rfl rfl rfl hg162 rfl (fun wq hq => ev_load one3 rfl (hq.cell (hc167))) ?_
                          refine PW_qg rfl rfl rfl hg162 rfl (fun wq hq => ev_fieldAddr fo26_6 rfl) ?_
                          refine PW_qg rfl rfl rfl hg162 rfl (fun wq hq => ev_load one24 rfl (hq.cell (hB5.cell rfl))) ?_
                          refine PW_qg rfl rfl rfl hg162 rfl (fun wq hq => ev_len Tryz.underlying24 rfl) ?_
                          refine PW_qg rfl rfl rfl hg162 rfl (fun wq hq => ev_sub rfl rfl (by omega)) ?_
                          refine PW_mg rfl rfl rfl hg162 rfl (ev_call rfl (l1In_spec _ _ _ _)) ?_
                          rintro _ _ ⟨rfl, rfl⟩
                          refine ⟨hDd32, ?_⟩
                          refine PW_q rfl rfl (fun wq hq => ev_pick_t rfl hg162 rfl) ?_
                          refine PW_q rfl rfl (fun wq hq => ev_assign rfl) ?_
                          replace hB2 := hB2.ext hDd32
                          replace hWL := hWL.ext hDd32
                          replace hB5 := hB5.ext hDd32
                          replace hM := hM.ext hDd32
                          replace hW28 := hW28.ext hDd32
                          replace hO47 := hO47.ext hDd32
                          refine PW_nil ?_
                          refine thenE_n ?_
                          have e0 := getD_eq (z := (0 : Int)) (show 0 < xs47.length by omega)
                          exact ⟨(), (Subs.c rfl (Subs.c rfl (Subs.c rfl (Subs.c rfl (Subs.c rfl (Subs.c rfl (Subs.c rfl Subs.n))))))), (Subs.c (lkB rfl (Bool.eq_iff_iff.2 ⟨fun e => decide_eq_true ⟨hp158, by omega, by have := inR_true.1 e; omega, by have := inR_true.1 e; omega⟩, fun e => inR_true.2 (by have := of_decide_eq_true e; omega)⟩)) Subs.n), hRJr32⟩
                        · have hp162 := of_decide_eq_false hg162
                          refine PW_no rfl rfl rfl hg162 rfl ?_
                          refine PW_no rfl rfl rfl hg162 rfl ?_
                          refine PW_no rfl rfl rfl hg162 rfl ?_
                          refine PW_no rfl rfl rfl hg162 rfl ?_
                          refine PW_no rfl rfl rfl hg162 rfl ?_
                          refine PW_no rfl rfl rfl hg162 rfl ?_
                          refine PW_no rfl rfl rfl hg162 rfl ?_
                          refine PW_no rfl rfl rfl hg162 rfl ?_
                          refine PW_q rfl rfl (fun wq hq => ev_pick_f rfl hg162 rfl) ?_
                          refine PW_q rfl rfl (fun wq hq => ev_assign rfl) ?_
                          refine PW_nil ?_
                          refine thenE_n ?_
                          exact ⟨(), (Subs.c rfl (Subs.c rfl (Subs.c rfl (Subs.c rfl (Subs.c rfl (Subs.c rfl (Subs.c rfl Subs.n))))))), (Subs.c (lkB rfl (decide_eq_false fun e => hp162 (by have := e.2.1; omega)).symm) Subs.n), hRJr32⟩
                      · have hp158 := of_decide_eq_false hg158
                        refine PW_no rfl rfl rfl hg158 rfl ?_
                        refine PW_no rfl rfl rfl hg158 rfl ?_
                        refine PW_no rfl rfl rfl hg158 rfl ?_
                        refine PW_q rfl rfl (fun wq hq => ev_pick_f rfl hg158 rfl) ?_
                        refine PW_q rfl rfl (fun wq hq => ev_move rfl) ?_
                        refine PW_no rfl rfl rfl rfl rfl ?_
                        refine PW_no rfl rfl rfl rfl rfl ?_
                        refine PW_no rfl rfl rfl rfl rfl ?_
                        refine PW_no rfl rfl rfl rfl rfl ?_
                        refine PW_no rfl rfl rfl rfl rfl ?_
                        refine PW_no rfl rfl rfl rfl rfl ?_
                        refine PW_no rfl rfl rfl rfl rfl ?_
                        refine PW_no rfl rfl rfl rfl rfl ?_
                        refine PW_q rfl rfl (fun wq hq => ev_pick_f rfl rfl rfl) ?_
                        refine PW_q rfl rfl (fun wq hq => ev_assign rfl) ?_
                        refine PW_nil ?_
                        refine thenE_n ?_
                        exact ⟨(), (Subs.c rfl (Subs.c rfl (Subs.c rfl (Subs.c rfl (Subs.c rfl (Subs.c rfl (Subs.c rfl Subs.n))))))), (Subs.c (lkB rfl (decide_eq_false fun e => hp158 e.1).symm) Subs.n), hRJr32⟩
                    · rintro _ wJr32 hEJr32
                      have hzJr32 := hEJr32.size
                      replace hE := hE.trans hEJr32
                      replace hRL0 := hRL0.trans hEJr32
                      replace hB2 := hB2.ext hEJr32
                      replace hWL := hWL.ext hEJr32
                      replace hB5 := hB5.ext hEJr32
                      replace hM := hM.ext hEJr32
                      replace hW28 := hW28.ext hEJr32
                      replace hO47 := hO47.ext hEJr32
                      refine W_cond rfl (fun hg154 => ?_) (fun hg154 => ?_)
                      · have hp154 := of_decide_eq_true hg154
                        have hx2 := hp154.2.1
                        have e0 := getD_eq (z := (0 : Int)) (show 0 < xs47.length by omega)
                        have hx3 := hp154.2.2.1
                        have hx4 := hp154.2.2.2
                        rw [e0] at hx3 hx4
                        refine W_drawY (X := Unit) (fun x => []) (fun x w' => Blk w' w15.heap.size 26 (mCells ⟨a1, c1, a2, c2, a3, c3, a4, c4⟩ (setOut M (xs47[0]'(by omega)) (xs47[1]'(by omega)))) ∧ HM pInts (w15.heap.size + 1) w'.heap.size w' ⟨a1, c1, a2, c2, a3, c3, a4, c4⟩ (setOut M (xs47[0]'(by omega)) (xs47[1]'(by omega))) ∧ Lo (w15.heap.size) w5 w' ∧ Ext w w') 9 0 0 0 0 (w15.heap.size + 1) wL0.heap.size 0 0 (.q 0 (.q 1 (.q 2 (.q 3 (.q 4 (.q 5 (.q 6 (.q 7 (.q 8 (.z 9 .done)))))))))) mixed (by kernel_rfl) rfl (by kernel_rfl) ?_ ?_
                        · intro wd33 hEd33 hzd33
                          replace hE := hE.trans hEd33
                          replace hRL0 := hRL0.trans hEd33
                          replace hB2 := hB2.ext hEd33
                          replace hWL := hWL.ext hEd33
                          replace hB5 := hB5.ext hEd33
                          replace hM := hM.ext hEd33
                          replace hW28 := hW28.ext hEd33
                          replace hO47 := hO47.ext hEd33
                          obtain ⟨g4, rest4, rfl, hg4, hB99, hc4, hm4, hl4, hxl4⟩ := hM.out4.1.blk (by omega)
                          have hgr : g4 < wL0.heap.size := (hM.out4.2 _ rfl).1
                          have hM19 := hM
                          have hSd33 := (Rg.refl : Rg 0 0 0 0 wd33 wd33)
                          have hUd33 := (Rg.refl : Rg (w15.heap.size + 1) wL0.heap.size 0 0 wd33 wd33)
                          refine PY_q rfl rfl (fun wq hq => ev_fieldAddr fo26_6 rfl) ?_
                          refine PY_q rfl rfl (fun wq hq => ev_load one24 rfl ((hB5.rg hq.1 (by omega)).cell rfl)) ?_
                          refine PY_q rfl rfl (fun wq hq => ev_move rfl) ?_
                          refine PY_q rfl rfl (fun wq hq => ev_indexAddr Tryz.underlying24 sz3 rfl rfl ((ownt_i hO47).isSome (by omega)) (by omega) (by omega)) ?_
                          refine PY_q rfl rfl (fun wq hq => ev_load one3 rfl (((ownt_i hO47).rg hq.1 (by omega)).cellJ (i := 0) (j := Int.toNat ((0 : Nat) : Int)) (by omega) (by omega))) ?_
                          refine PY_q rfl rfl (fun wq hq => ev_move rfl) ?_
                          refine PY_q rfl rfl (fun wq hq => ev_indexAddr Tryz.underlying24 sz3 rfl rfl ((ownt_i hO47).isSome (by omega)) (by omega) (by omega)) ?_
                          refine PY_q rfl rfl (fun wq hq => ev_load one3 rfl (((ownt_i hO47).rg hq.1 (by omega)).cellJ (i := 1) (j := Int.toNat ((1 : Nat) : Int)) (by omega) (by omega))) ?_
                          refine PY_q rfl rfl (fun wq hq => ev_indexAddr Tryz.underlying24 sz3 rfl rfl rfl (by omega) (by omega)) ?_
                          refine PY_z ?_
                          refine PB_s (w15.heap.size + 1) wL0.heap.size 0 0 (w15.heap.size + 1) wL0.heap.size 0 0 rfl (ev_store sz3 rfl rfl rfl hB99 (by simp; omega)) ?_
                          rintro _ w33_9 hS33_9
                          have hz33_9 := hS33_9.size
                          replace hE := hE.sto hS33_9 (by omega)
                          replace hRL0 := hRL0.sto hS33_9 (by omega)
                          replace hUd33 := hUd33.sto hS33_9 (by omega)
                          replace hB2 := hB2.sto hS33_9 (by omega)
                          replace hWL := hWL.sto hS33_9 (by omega)
                          replace hB5 := hB5.sto hS33_9 (by omega)
                          replace hB99 := hS33_9.blk
                          have hM := hM19.chOut (hS33_9.keep.mono fun i hi => hi.2 _ rfl) (own_put hg4 hc4 hm4 hl4 (i := (xs47[0]).toNat) (by omega) (by omega) hB99) (fun q hq => .inl ⟨_, rfl, by cases hq; rfl⟩) (by omega)
                          refine ⟨fun _ _ => trivial, fun _ hx => ⟨hUd33.rg hx (by omega), trivial⟩, ?_⟩
                          have hSd33 := (Rg.refl : Rg (w15.heap.size + 1) wL0.heap.size 0 0 w33_9 w33_9)
                          have hUd33 := (Rg.refl : Rg (w15.heap.size + 1) wL0.heap.size 0 0 w33_9 w33_9)
                          exact PY_nil 9 () rfl trivial rfl ⟨by simpa [mCells, setOut] using hB5, hM.up (Nat.le_refl _) (by omega) (by omega), hRL0, hE⟩
                        rintro _ wt33 ⟨hB5, hM, hRL0, hE⟩
                        dsimp only [List.cons_append, List.nil_append]
                        refine blockE_n ?_
                        refine blockE_n ?_
                        refine thenE_n ?_
                        refine W_region ?_
                        refine WL_q rfl (ev_add rfl rfl (by omega)) ?_
                        refine WL_q rfl (ev_move rfl) ?_
                        refine WL_nil ?_
                        refine thenE_n ?_
                        have hnx : ∃ h9 M9, lineS i M l = some M9 ∧ Blk wt33 w15.heap.size 26 (mCells h9 M9) ∧ HM pInts (w15.heap.size + 1) wt33.heap.size wt33 h9 M9 := by
                          exact ⟨⟨a1, c1, a2, c2, a3, c3, a4, c4⟩, setOut M xs47[0] xs47[1], (lineS_give hok hxs hp54 hp102 hp113 hp120 hp154).trans (by have e0 := getD_eq (z := (0 : Int)) (show 0 < xs47.length by omega); have e1 := getD_eq (z := (0 : Int)) (show 1 < xs47.length by omega); rw [e0, e1]), hB5, hM⟩
                        obtain ⟨h9, M9, hln, hB9, hM9⟩ := hnx
                        exact ⟨(i + 1, h9, M9), (Subs.c rfl (Subs.c rfl (Subs.c rfl (Subs.c rfl (Subs.c rfl Subs.n))))), (Subs.c (lkI rfl (by omega)) Subs.n), ⟨hRL0, ⟨by omega, (runM_take hil hrun).trans (by rw [hlx]; exact hln), hB9, hM9⟩⟩, by first | omega | (dsimp only; omega)⟩
                      · have hp154 := of_decide_eq_false hg154
                        refine W_seq ?_
                        refine W_region ?_
                        refine WL_q rfl (ev_buildP0 sn26_7 zr26 ) ?_
                        refine WL_s (ev_stores sz26 rfl rfl rfl (by simp [Value.oneCell']) hB2 (by simp)) ?_
                        rintro _ w17_1 hS17_1
                        have hz17_1 := hS17_1.size
                        replace hE := hE.sto hS17_1 (by omega)
                        replace hWL := hWL.sto hS17_1 (by omega)
                        replace hB5 := hB5.sto hS17_1 (by omega)
                        replace hM := hM.sto hS17_1 (by omega)
                        replace hW28 := hW28.sto hS17_1 (by omega)
                        replace hO47 := hO47.sto hS17_1 (by omega)
                        replace hB2 : Blk w17_1 _ _ [_, _, _, _, _, _, _] := hS17_1.blk
                        refine WL_q rfl (ev_assign rfl) ?_
                        refine WL_nil ?_
                        refine thenE_n ?_
                        refine W_ret ?_
                        refine blockE_r ?_
                        refine blockE_r ?_
                        refine thenE_r ?_
                        refine thenE_r ?_
                        refine blockE_r ?_
                        refine thenE_r ?_
                        refine retc2 rfl rfl st26 sz26 (cellsB hB2) rfl rfl ?_
                        exact ⟨⟨none, 0, none, 0, none, 0, none, 0⟩, zeroM, false, rfl, .inr ⟨rfl, rfl, (pmS_none (by rw [← hls]; exact runM_bad ((runM_take hil hrun).trans (by rw [hlx]; exact (lineS_none hok hxs hp54 hp102 hp113 hp120 hp154)))))⟩, Nat.zero_le _, (HM.zero hE.size).up (Nat.le_refl _) hE.size (Nat.le_refl _), hE⟩
  · have hp23 := of_decide_eq_false hg23
    refine W_exit ?_
    refine thenE_x ?_
    refine thenE_x ?_
    refine blockE_hit ?_
    refine thenE_n ?_
    refine W_seq ?_
    refine W_seq ?_
    refine W_region ?_
    refine WL_q rfl (ev_loads st26 sz26 rfl (cellsB hB5) rfl) ?_
    refine WL_m rfl (ev_call rfl (maGood_spec ⟨a1, c1, a2, c2, a3, c3, a4, c4⟩ M _ (hM.is kInts) (Nat.le_refl _) htm9)) ?_
    rintro _ w185 ⟨b9, rfl, hb9, hE185⟩
    have hz185 := hE185.size
    replace hE := hE.trans hE185
    replace hB2 := hB2.ext hE185
    replace hWL := hWL.ext hE185
    replace hB5 := hB5.ext hE185
    replace hM := hM.ext hE185
    refine WL_q rfl (ev_not rfl) ?_
    refine WL_q rfl (ev_move rfl) ?_
    refine WL_splitv (t := 187) rfl (fun hg186 => ?_) (fun hg186 => ?_)
    · have hg185 := not_true hg186
      refine WL_no rfl rfl hg186 rfl ?_
      refine WL_no rfl rfl hg186 rfl ?_
      refine WL_no rfl rfl hg186 rfl ?_
      refine WL_no rfl rfl hg186 rfl ?_
      refine WL_q rfl (ev_pick_t rfl hg186 rfl) ?_
      refine WL_nil ?_
      refine thenE_n ?_
      refine W_cond_t rfl ?_
      refine W_seq ?_
      refine W_region ?_
      refine WL_q rfl (ev_buildP0 sn26_7 zr26 ) ?_
      refine WL_s (ev_stores sz26 rfl rfl rfl (by simp [Value.oneCell']) hB2 (by simp)) ?_
      rintro _ w36_1 hS36_1
      have hz36_1 := hS36_1.size
      replace hE := hE.sto hS36_1 (by omega)
      replace hWL := hWL.sto hS36_1 (by omega)
      replace hB5 := hB5.sto hS36_1 (by omega)
      replace hM := hM.sto hS36_1 (by omega)
      replace hB2 : Blk w36_1 _ _ [_, _, _, _, _, _, _] := hS36_1.blk
      refine WL_q rfl (ev_assign rfl) ?_
      refine WL_nil ?_
      refine thenE_n ?_
      refine W_ret ?_
      refine thenE_r ?_
      refine retc2 rfl rfl st26 sz26 (cellsB hB2) rfl rfl ?_
      have hi9 : i = ls.length := by omega
      have hfull : runM lineS 0 zeroM (linesS s) = some M := by rw [← hls, ← hrun, hi9, List.take_length]
      exact ⟨⟨none, 0, none, 0, none, 0, none, 0⟩, zeroM, false, rfl, .inr ⟨rfl, rfl, (fun m hm e => absurd ((hb9.2 (pmS_some hfull m hm e ▸ hm)).symm.trans hg185) (by decide))⟩, Nat.zero_le _, (HM.zero hE.size).up (Nat.le_refl _) hE.size (Nat.le_refl _), hE⟩
    · have hg185 := not_false hg186
      refine WL_qg rfl rfl hg186 rfl (ev_loads st26 sz26 rfl (cellsB hB5) rfl) ?_
      refine WL_mg rfl rfl hg186 rfl (ev_call rfl (maText_spec ⟨a1, c1, a2, c2, a3, c3, a4, c4⟩ M _ (hM.is kInts) (by omega) htm9 (hb9.1 hg185))) ?_
      rintro _ w189 ⟨rfl, hE189⟩
      have hz189 := hE189.size
      replace hE := hE.trans hE189
      replace hB2 := hB2.ext hE189
      replace hWL := hWL.ext hE189
      replace hB5 := hB5.ext hE189
      replace hM := hM.ext hE189
      refine WL_qg rfl rfl hg186 rfl (ev_move rfl) ?_
      refine WL_qg rfl rfl hg186 rfl (ev_neq_str rfl rfl) ?_
      refine WL_q rfl (ev_pick_f rfl hg186 rfl) ?_
      refine WL_nil ?_
      refine thenE_n ?_
      refine W_cond rfl (fun hg191 => ?_) (fun hg191 => ?_)
      · have hp191 := of_decide_eq_true hg191
        refine W_seq ?_
        refine W_region ?_
        refine WL_q rfl (ev_buildP0 sn26_7 zr26 ) ?_
        refine WL_s (ev_stores sz26 rfl rfl rfl (by simp [Value.oneCell']) hB2 (by simp)) ?_
        rintro _ w36_1 hS36_1
        have hz36_1 := hS36_1.size
        replace hE := hE.sto hS36_1 (by omega)
        replace hWL := hWL.sto hS36_1 (by omega)
        replace hB5 := hB5.sto hS36_1 (by omega)
        replace hM := hM.sto hS36_1 (by omega)
        replace hB2 : Blk w36_1 _ _ [_, _, _, _, _, _, _] := hS36_1.blk
        refine WL_q rfl (ev_assign rfl) ?_
        refine WL_nil ?_
        refine thenE_n ?_
        refine W_ret ?_
        refine thenE_r ?_
        refine retc2 rfl rfl st26 sz26 (cellsB hB2) rfl rfl ?_
        have hi9 : i = ls.length := by omega
        have hfull : runM lineS 0 zeroM (linesS s) = some M := by rw [← hls, ← hrun, hi9, List.take_length]
        exact ⟨⟨none, 0, none, 0, none, 0, none, 0⟩, zeroM, false, rfl, .inr ⟨rfl, rfl, (fun m hm e => hp191 (by have e2 := pmS_some hfull m hm e; subst e2; exact e))⟩, Nat.zero_le _, (HM.zero hE.size).up (Nat.le_refl _) hE.size (Nat.le_refl _), hE⟩
      · have hp191 := of_decide_eq_false hg191
        refine W_skip ?_
        refine thenE_n ?_
        refine W_seq ?_
        refine W_region ?_
        refine WL_q rfl (ev_loads st26 sz26 rfl (cellsB hB5) rfl) ?_
        refine WL_s (ev_stores sz26 rfl rfl rfl (by simp [mCells, Value.oneCell']) hB2 (by simp [mCells])) ?_
        rintro _ w37_1 hS37_1
        have hz37_1 := hS37_1.size
        replace hE := hE.sto hS37_1 (by omega)
        replace hWL := hWL.sto hS37_1 (by omega)
        replace hB5 := hB5.sto hS37_1 (by omega)
        replace hM := hM.sto hS37_1 (by omega)
        replace hB2 : Blk w37_1 _ _ [_, _, _, _, _, _, _] := hS37_1.blk
        refine WL_q rfl (ev_assign rfl) ?_
        refine WL_nil ?_
        refine thenE_n ?_
        refine W_ret ?_
        refine retc2 rfl rfl st26 sz26 (cellsB hB2) rfl rfl ?_
        exact ⟨⟨a1, c1, a2, c2, a3, c3, a4, c4⟩, M, true, rfl, .inl ⟨rfl, hb9.1 hg185, Decidable.of_not_not hp191⟩, htm9, hM.up (by omega) (by omega) (Nat.le_refl _), hE⟩

end Go.Proofs.YtdpdjbfjjlpfgaaGreatDoor
