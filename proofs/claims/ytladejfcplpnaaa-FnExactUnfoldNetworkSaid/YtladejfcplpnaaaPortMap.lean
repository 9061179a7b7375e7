/- Contracts of IsPortMap, of the program and of the reference, and of what they call; the walk of FnExactIsPortMap. -/
import Derived.Test.YtladejfcplpnaaaNetwork
namespace Go.Proofs.Ytladejfcplpnaaa
open Go Go.RowKit

def MEnd (B : Net) (m : List Int) (x : Int) (i : Nat) (e : Int × Int) : Prop := ∃ (_h2 : x.toNat < B.ends.length) (_h3 : i < B.ends[x.toNat].length) (_h4 : e.1.toNat < m.length), B.ends[x.toNat][i] = (m[e.1.toNat], e.2)
def MRow (A B : Net) (m : List Int) (v : Nat) (r : List (Int × Int)) : Prop := ∃ (_h1 : v < m.length) (_h2 : m[v].toNat < B.ends.length) (_h3 : v < A.inputs.length) (_h4 : m[v].toNat < B.inputs.length), r.length = B.ends[m[v].toNat].length ∧ A.inputs[v] = B.inputs[m[v].toNat] ∧ ∀ i (_h : i < r.length), MEnd B m m[v] i r[i]
/-- m keeps the ports. -/
structure IsPM (A B : Net) (m : List Int) : Prop where
  len : (m.length : Int) = A.ends.length
  rng : allR m 0 ((B.ends.length : Int) - 1) = true
  rows : ∀ v (_h : v < A.ends.length), MRow A B m v A.ends[v]
theorem MEnd.no {B : Net} {m : List Int} {x : Int} {i : Nat} {e : Int × Int} (h : MEnd B m x i e) {h2 : x.toNat < B.ends.length} {h3 : i < B.ends[x.toNat].length} {h4 : e.1.toNat < m.length} (k : ¬ (B.ends[x.toNat][i].1 = m[e.1.toNat] ∧ B.ends[x.toNat][i].2 = e.2)) : False := k (by obtain ⟨_, _, _, q⟩ := h; rw [q]; exact ⟨rfl, rfl⟩)
theorem IsPM.mend {A B : Net} {m : List Int} (h : IsPM A B m) {v i : Nat} (hv : v < A.ends.length) (hi : i < A.ends[v].length) (hm : v < m.length) : MEnd B m m[v] i A.ends[v][i] := by obtain ⟨_, _, _, _, _, _, q⟩ := h.rows v hv; exact q i hi
theorem IsPM.rowlen {A B : Net} {m : List Int} (h : IsPM A B m) {v : Nat} (hv : v < A.ends.length) (hm : v < m.length) (hb : m[v].toNat < B.ends.length) : A.ends[v].length = B.ends[m[v].toNat].length := by obtain ⟨_, _, _, _, q, _⟩ := h.rows v hv; exact q
theorem IsPM.inp {A B : Net} {m : List Int} (h : IsPM A B m) {v : Nat} (hv : v < A.ends.length) (hm : v < m.length) (ha : v < A.inputs.length) (hb : m[v].toNat < B.inputs.length) : A.inputs[v] = B.inputs[m[v].toNat] := by obtain ⟨_, _, _, _, _, q, _⟩ := h.rows v hv; exact q
theorem tfF (h : true = false) : False := by cases h
/-- The result of IsPortMap and of its like: right, and valid. -/
def Two (b q : Bool) (V P : Prop) : Prop := (q = true ↔ V) ∧ (b = true ↔ V ∧ P)
theorem Two.det1 {b q b' q' : Bool} {V P : Prop} (h : Two b q V P) (k : Two b' q' V P) : b = b' := bool_eq_of h.2 k.2
theorem Two.det2 {b q b' q' : Bool} {V P : Prop} (h : Two b q V P) (k : Two b' q' V P) : q = q' := bool_eq_of h.1 k.1
theorem Two.no {V P : Prop} (h : ¬ V) : Two false false V P := ⟨ffI h, ffI fun k => h k.1⟩
theorem Two.yes {b : Bool} {V P : Prop} (h : V) (hb : b = true ↔ P) : Two b true V P := ⟨ttI h, ⟨fun k => ⟨h, hb.1 k⟩, fun k => hb.2 k.2⟩⟩

set_option maxHeartbeats 2000000 in
set_option maxRecDepth 100000 in
theorem coMap_spec {lo hi lo2 hi2 lo3 hi3 : Nat} (ha hb : NA) (A B : Net) (a : Option Addr) (c : Nat) (m : List Int) (w : World) (hA : IsNet lo hi w ha A) (hB : IsNet lo2 hi2 w hb B) (hx : Ints lo3 hi3 w a c m) (hhi : hi ≤ w.heap.size) (hhi2 : hi2 ≤ w.heap.size) (hhi3 : hi3 ≤ w.heap.size) (hnA : totN A ≤ 1048576) (hnB : totN B ≤ 1048576) (hm : m.length ≤ 1048576) (hkA : NOk A) (hkB : NOk B) :
    Fn Try.prog 61 #[netV ha A, netV hb B, .slice a m.length c] w (fun v w' => ∃ b, v = VB b ∧ (b = true ↔ IsPM A B m) ∧ Ext w w') := by
  unfold totN at hnA hnB
  have hq1 := totL_len A.ends
  have hq2 := totL_len B.ends
  have hinA := hkA.inLen
  have hinB := hkB.inLen
  have hE := Ext.refl w
  refine Fn_of Try.func61 rfl rfl (by kernel_rfl) rfl ?_
  refine W_seq ?_
  refine W_region ?_
  refine WL_m rfl (ev_box rfl) ?_
  rintro _ w3 ⟨rfl, hN3⟩
  have hz3 := hN3.size
  replace hE := hE.trans hN3.ext
  replace hA := hA.ext hN3.ext
  replace hB := hB.ext hN3.ext
  replace hx := hx.ext hN3.ext
  have hB3 : Blk w3 _ _ [_, _, _] := hN3.blk
  refine WL_m rfl (ev_box rfl) ?_
  rintro _ w4 ⟨rfl, hN4⟩
  have hz4 := hN4.size
  replace hE := hE.trans hN4.ext
  replace hA := hA.ext hN4.ext
  replace hB := hB.ext hN4.ext
  replace hx := hx.ext hN4.ext
  replace hB3 := hB3.ext hN4.ext
  have hB4 : Blk w4 _ _ [_, _, _] := hN4.blk
  refine WL_q rfl (ev_assign rfl) ?_
  refine WL_nil ?_
  refine thenE_n ?_
  refine W_seq ?_
  refine W_seq ?_
  refine W_region ?_
  refine WL_q rfl (ev_move rfl) ?_
  refine WL_q rfl (ev_len Try.underlying23 rfl) ?_
  refine WL_q rfl (ev_fieldAddr fo31_0 rfl) ?_
  refine WL_q rfl (ev_load one29 rfl (hB3.cell rfl)) ?_
  refine WL_q rfl (ev_len Try.underlying29 rfl) ?_
  refine WL_q rfl (ev_neq rfl rfl) ?_
  refine WL_q rfl (ev_move rfl) ?_
  refine WL_splitv (t := 17) rfl (fun hg16 => ?_) (fun hg16 => ?_)
  · have hp16 := of_decide_eq_true hg16
    refine WL_no rfl rfl hg16 rfl ?_
    refine WL_no rfl rfl hg16 rfl ?_
    refine WL_no rfl rfl hg16 rfl ?_
    refine WL_no rfl rfl hg16 rfl ?_
    refine WL_no rfl rfl hg16 rfl ?_
    refine WL_no rfl rfl hg16 rfl ?_
    refine WL_no rfl rfl hg16 rfl ?_
    refine WL_q rfl (ev_pick_t rfl hg16 rfl) ?_
    refine WL_nil ?_
    refine thenE_n ?_
    refine W_cond_t rfl ?_
    refine W_seq ?_
    refine W_region ?_
    refine WL_q rfl (ev_assign rfl) ?_
    refine WL_nil ?_
    refine thenE_n ?_
    refine W_ret ?_
    refine thenE_r ?_
    refine ret1 rfl rfl ?_
    first | (exact ⟨false, rfl, ffI fun hk => hp16 hk.len, hE⟩) | (exact ⟨false, rfl, ffI fun hk => tf hg23 hk.rng, hE⟩) | (refine ⟨false, rfl, ffI fun hk => ?_, hE⟩; have := hk.rowlen hlt hml hv2; omega) | (refine ⟨false, rfl, ffI fun hk => ?_, hE⟩; have := hk.inp hlt hml (by omega) (by omega); omega) | (exact ⟨false, rfl, ffI fun hk => (hk.mend hlt hlt2 hml).no hp88, hE⟩) | (exact ⟨true, rfl, ttI ⟨by omega, hg23, fun v h2 => hJ v (by omega) h2⟩, hE⟩)
  · have hp16 := of_decide_eq_false hg16
    refine WL_qg rfl rfl hg16 rfl (ev_move rfl) ?_
    refine WL_qg rfl rfl hg16 rfl (ev_fieldAddr fo31_0 rfl) ?_
    refine WL_qg rfl rfl hg16 rfl (ev_load one29 rfl (hB4.cell rfl)) ?_
    refine WL_qg rfl rfl hg16 rfl (ev_len Try.underlying29 rfl) ?_
    refine WL_qg rfl rfl hg16 rfl (ev_sub rfl rfl (by omega)) ?_
    refine WL_mg rfl rfl hg16 rfl (ev_call rfl (l1All_spec _ _ _ _ _ _ hx (by omega))) ?_
    rintro _ w23 ⟨rfl, hE23⟩
    have hz23 := hE23.size
    replace hE := hE.trans hE23
    replace hA := hA.ext hE23
    replace hB := hB.ext hE23
    replace hx := hx.ext hE23
    replace hB3 := hB3.ext hE23
    replace hB4 := hB4.ext hE23
    refine WL_qg rfl rfl hg16 rfl (ev_not rfl) ?_
    refine WL_q rfl (ev_pick_f rfl hg16 rfl) ?_
    refine WL_nil ?_
    refine thenE_n ?_
    refine W_cond rfl (fun hg24 => ?_) (fun hg24 => ?_)
    · have hg23 := not_true hg24
      refine W_seq ?_
      refine W_region ?_
      refine WL_q rfl (ev_assign rfl) ?_
      refine WL_nil ?_
      refine thenE_n ?_
      refine W_ret ?_
      refine thenE_r ?_
      refine ret1 rfl rfl ?_
      first | (exact ⟨false, rfl, ffI fun hk => hp16 hk.len, hE⟩) | (exact ⟨false, rfl, ffI fun hk => tf hg23 hk.rng, hE⟩) | (refine ⟨false, rfl, ffI fun hk => ?_, hE⟩; have := hk.rowlen hlt hml hv2; omega) | (refine ⟨false, rfl, ffI fun hk => ?_, hE⟩; have := hk.inp hlt hml (by omega) (by omega); omega) | (exact ⟨false, rfl, ffI fun hk => (hk.mend hlt hlt2 hml).no hp88, hE⟩) | (exact ⟨true, rfl, ttI ⟨by omega, hg23, fun v h2 => hJ v (by omega) h2⟩, hE⟩)
    · have hg23 := not_false hg24
      refine W_skip ?_
      refine thenE_n ?_
      refine W_seq ?_
      refine W_seq ?_
      refine W_region ?_
      refine WL_q rfl (ev_fieldAddr fo31_0 rfl) ?_
      refine WL_q rfl (ev_load one29 rfl (hB3.cell rfl)) ?_
      refine WL_q rfl (ev_len Try.underlying29 rfl) ?_
      refine WL_q rfl (ev_move rfl) ?_
      refine WL_nil ?_
      refine thenE_n ?_
      refine W_block ?_
      refine W_loopC (G := Nat) [(2, _), (3, _), (4, _), (27, _), (28, _)] ((Subs.c rfl (Subs.c rfl (Subs.c rfl (Subs.c rfl (Subs.c rfl Subs.n)))))) (fun i => [(29, VI (i : Int))]) (fun i w' => Ext w23 w' ∧ i ≤ A.ends.length ∧ ∀ j (_h : j < i) (h2 : j < A.ends.length), MRow A B m j A.ends[j]) (fun i => A.ends.length - i) 0 ((Subs.c (lkI rfl (by omega)) Subs.n)) (⟨Ext.refl _, ⟨by omega, fun j h => by omega⟩⟩) ?_
      rintro i wL0 ⟨hRL0, hi', hJ⟩
      have hzL0 := hRL0.size
      replace hE := hE.trans hRL0
      replace hA := hA.ext hRL0
      replace hB := hB.ext hRL0
      replace hx := hx.ext hRL0
      replace hB3 := hB3.ext hRL0
      replace hB4 := hB4.ext hRL0
      refine W_seq ?_
      refine W_region ?_
      refine WL_q rfl (ev_lss rfl rfl) ?_
      refine WL_nil ?_
      refine thenE_n ?_
      refine W_seq ?_
      refine W_cond rfl (fun hg30 => ?_) (fun hg30 => ?_)
      · have hp30 := of_decide_eq_true hg30
        refine W_skip ?_
        refine thenE_n ?_
        refine W_seq ?_
        refine W_block ?_
        refine W_seq ?_
        refine W_region ?_
        refine WL_q rfl (ev_move rfl) ?_
        have hlt : i < A.ends.length := by omega
        have htl := totL_le hlt
        have hml : i < m.length := by omega
        have hrg := allR_at hg23 hml
        have hv2 : m[i].toNat < B.ends.length := by omega
        have htl2 := totL_le hv2
        obtain ⟨a2, c2, hc2, hr2⟩ := hA.ends.row hlt
        refine WL_q rfl (ev_indexAddr Try.underlying29 sz56 rfl rfl (hA.ends.isSome (by omega)) (by omega) (by omega)) ?_
        refine WL_q rfl (ev_load one56 rfl (hc2)) ?_
        refine WL_q rfl (ev_assign rfl) ?_
        refine WL_q rfl (ev_assign rfl) ?_
        refine WL_nil ?_
        refine thenE_n ?_
        refine W_seq ?_
        refine W_seq ?_
        refine W_drawE [(0, true), (1, true), (2, true), (3, true), (4, true), (5, true), (6, true), (7, true), (8, true), (9, true), (10, true), (11, true), (12, true), (13, true), (14, true), (15, true), (16, true), (17, true), (18, true), (19, true), (20, true), (21, true), (22, true), (23, true), (24, true), (25, true), (26, true), (27, true)] mixed (by kernel_rfl) rfl (by kernel_rfl) ?_
        intro wd6 hEd6 hzd6
        replace hE := hE.trans hEd6
        replace hRL0 := hRL0.trans hEd6
        replace hA := hA.ext hEd6
        replace hB := hB.ext hEd6
        replace hx := hx.ext hEd6
        replace hB3 := hB3.ext hEd6
        replace hB4 := hB4.ext hEd6
        replace hr2 := hr2.ext hEd6
        obtain ⟨a3, c3, hc3, hr3⟩ := hB.ends.row hv2
        have hDd6 := Ext.refl wd6
        refine PW_q rfl rfl (fun wq hq => ev_move rfl) ?_
        refine PW_q rfl rfl (fun wq hq => ev_len Try.underlying56 rfl) ?_
        refine PW_q rfl rfl (fun wq hq => ev_fieldAddr fo31_0 rfl) ?_
        refine PW_q rfl rfl (fun wq hq => ev_load one29 rfl (hq.cell (hB4.cell rfl))) ?_
        refine PW_q rfl rfl (fun wq hq => ev_move rfl) ?_
        refine PW_q rfl rfl (fun wq hq => ev_move rfl) ?_
        refine PW_q rfl rfl (fun wq hq => ev_indexAddr Try.underlying23 sz3 rfl rfl (hx.isSome (by omega)) (by omega) (by omega)) ?_
        have hc41 := hx.cell (i := i) (by omega)
        refine PW_q rfl rfl (fun wq hq => ev_load one3 rfl (hq.cell (hc41))) ?_
        refine PW_q rfl rfl (fun wq hq => ev_indexAddr Try.underlying29 sz56 rfl rfl (hB.ends.isSome (by omega)) hrg.1 (by omega)) ?_
        refine PW_q rfl rfl (fun wq hq => ev_load one56 rfl (hq.cell (hc3))) ?_
        refine PW_q rfl rfl (fun wq hq => ev_len Try.underlying56 rfl) ?_
        refine PW_q rfl rfl (fun wq hq => ev_neq rfl rfl) ?_
        refine PW_q rfl rfl (fun wq hq => ev_move rfl) ?_
        refine PW_splitv (t := 46) rfl (fun hg45 => ?_) (fun hg45 => ?_)
        · have hp45 := of_decide_eq_true hg45
          refine PW_no rfl rfl rfl hg45 rfl ?_
          refine PW_no rfl rfl rfl hg45 rfl ?_
          refine PW_no rfl rfl rfl hg45 rfl ?_
          refine PW_no rfl rfl rfl hg45 rfl ?_
          refine PW_no rfl rfl rfl hg45 rfl ?_
          refine PW_no rfl rfl rfl hg45 rfl ?_
          refine PW_no rfl rfl rfl hg45 rfl ?_
          refine PW_no rfl rfl rfl hg45 rfl ?_
          refine PW_no rfl rfl rfl hg45 rfl ?_
          refine PW_no rfl rfl rfl hg45 rfl ?_
          refine PW_no rfl rfl rfl hg45 rfl ?_
          refine PW_no rfl rfl rfl hg45 rfl ?_
          refine PW_no rfl rfl rfl hg45 rfl ?_
          refine PW_no rfl rfl rfl hg45 rfl ?_
          refine PW_q rfl rfl (fun wq hq => ev_pick_t rfl hg45 rfl) ?_
          refine PW_nil ?_
          refine thenE_n ?_
          refine W_cond_t rfl ?_
          refine W_seq ?_
          refine W_region ?_
          refine WL_q rfl (ev_assign rfl) ?_
          refine WL_nil ?_
          refine thenE_n ?_
          refine W_ret ?_
          refine thenE_r ?_
          refine blockE_r ?_
          refine thenE_r ?_
          refine thenE_r ?_
          refine blockE_r ?_
          refine thenE_r ?_
          refine ret1 rfl rfl ?_
          first | (exact ⟨false, rfl, ffI fun hk => hp16 hk.len, hE⟩) | (exact ⟨false, rfl, ffI fun hk => tf hg23 hk.rng, hE⟩) | (refine ⟨false, rfl, ffI fun hk => ?_, hE⟩; have := hk.rowlen hlt hml hv2; omega) | (refine ⟨false, rfl, ffI fun hk => ?_, hE⟩; have := hk.inp hlt hml (by omega) (by omega); omega) | (exact ⟨false, rfl, ffI fun hk => (hk.mend hlt hlt2 hml).no hp88, hE⟩) | (exact ⟨true, rfl, ttI ⟨by omega, hg23, fun v h2 => hJ v (by omega) h2⟩, hE⟩)
        · have hp45 := of_decide_eq_false hg45
          refine PW_qg rfl rfl rfl hg45 rfl (fun wq hq => ev_fieldAddr fo31_2 rfl) ?_
          refine PW_qg rfl rfl rfl hg45 rfl (fun wq hq => ev_load one23 rfl (hq.cell (hB3.cell rfl))) ?_
          refine PW_qg rfl rfl rfl hg45 rfl (fun wq hq => ev_move rfl) ?_
          refine PW_qg rfl rfl rfl hg45 rfl (fun wq hq => ev_indexAddr Try.underlying23 sz3 rfl rfl (hA.inputs.isSome (by omega)) (by omega) (by omega)) ?_
          have hc51 := hA.inputs.cell (i := i) (by omega)
          refine PW_qg rfl rfl rfl hg45 rfl (fun wq hq => ev_load one3 rfl (hq.cell (hc51))) ?_
          refine PW_qg rfl rfl rfl hg45 rfl (fun wq hq => ev_fieldAddr fo31_2 rfl) ?_
          refine PW_qg rfl rfl rfl hg45 rfl (fun wq hq => ev_load one23 rfl (hq.cell (hB4.cell rfl))) ?_
          refine PW_qg rfl rfl rfl hg45 rfl (fun wq hq => ev_move rfl) ?_
          refine PW_qg rfl rfl rfl hg45 rfl (fun wq hq => ev_move rfl) ?_
          refine PW_qg rfl rfl rfl hg45 rfl (fun wq hq => ev_indexAddr Try.underlying23 sz3 rfl rfl (hx.isSome (by omega)) (by omega) (by omega)) ?_
          have hc57 := hx.cell (i := i) (by omega)
          refine PW_qg rfl rfl rfl hg45 rfl (fun wq hq => ev_load one3 rfl (hq.cell (hc57))) ?_
          refine PW_qg rfl rfl rfl hg45 rfl (fun wq hq => ev_indexAddr Try.underlying23 sz3 rfl rfl (hB.inputs.isSome (by omega)) hrg.1 (by omega)) ?_
          have hc59 := hB.inputs.cell (i := m[i].toNat) (by omega)
          refine PW_qg rfl rfl rfl hg45 rfl (fun wq hq => ev_load one3 rfl (hq.cell (hc59))) ?_
          refine PW_qg rfl rfl rfl hg45 rfl (fun wq hq => ev_neq rfl rfl) ?_
          refine PW_q rfl rfl (fun wq hq => ev_pick_f rfl hg45 rfl) ?_
          refine PW_nil ?_
          refine thenE_n ?_
          refine W_cond rfl (fun hg60 => ?_) (fun hg60 => ?_)
          · have hp60 := of_decide_eq_true hg60
            refine W_seq ?_
            refine W_region ?_
            refine WL_q rfl (ev_assign rfl) ?_
            refine WL_nil ?_
            refine thenE_n ?_
            refine W_ret ?_
            refine thenE_r ?_
            refine blockE_r ?_
            refine thenE_r ?_
            refine thenE_r ?_
            refine blockE_r ?_
            refine thenE_r ?_
            refine ret1 rfl rfl ?_
            first | (exact ⟨false, rfl, ffI fun hk => hp16 hk.len, hE⟩) | (exact ⟨false, rfl, ffI fun hk => tf hg23 hk.rng, hE⟩) | (refine ⟨false, rfl, ffI fun hk => ?_, hE⟩; have := hk.rowlen hlt hml hv2; omega) | (refine ⟨false, rfl, ffI fun hk => ?_, hE⟩; have := hk.inp hlt hml (by omega) (by omega); omega) | (exact ⟨false, rfl, ffI fun hk => (hk.mend hlt hlt2 hml).no hp88, hE⟩) | (exact ⟨true, rfl, ttI ⟨by omega, hg23, fun v h2 => hJ v (by omega) h2⟩, hE⟩)
          · have hp60 := of_decide_eq_false hg60
            refine W_skip ?_
            refine thenE_n ?_
            refine W_seq ?_
            refine W_region ?_
            refine WL_q rfl (ev_move rfl) ?_
            refine WL_q rfl (ev_len Try.underlying56 rfl) ?_
            refine WL_q rfl (ev_move rfl) ?_
            refine WL_nil ?_
            refine thenE_n ?_
            refine W_block ?_
            refine W_loopC (G := Nat) [(2, _), (3, _), (4, _), (7, _), (27, _), (28, _), (29, _), (62, _), (63, _)] ((Subs.c rfl (Subs.c rfl (Subs.c rfl (Subs.c rfl (Subs.c rfl (Subs.c rfl (Subs.c rfl (Subs.c rfl (Subs.c rfl Subs.n)))))))))) (fun k => [(64, VI (k : Int))]) (fun k w' => Ext wd6 w' ∧ k ≤ A.ends[i].length ∧ ∀ j (_h : j < k) (h2 : j < A.ends[i].length), MEnd B m m[i] j A.ends[i][j]) (fun k => A.ends[i].length - k) 0 ((Subs.c (lkI rfl (by omega)) Subs.n)) (⟨Ext.refl _, ⟨by omega, fun j h => by omega⟩⟩) ?_
            rintro k wL2 ⟨hRL2, hk', hJ2⟩
            have hzL2 := hRL2.size
            replace hE := hE.trans hRL2
            replace hRL0 := hRL0.trans hRL2
            replace hA := hA.ext hRL2
            replace hB := hB.ext hRL2
            replace hx := hx.ext hRL2
            replace hB3 := hB3.ext hRL2
            replace hB4 := hB4.ext hRL2
            replace hr2 := hr2.ext hRL2
            refine W_seq ?_
            refine W_region ?_
            refine WL_q rfl (ev_lss rfl rfl) ?_
            refine WL_nil ?_
            refine thenE_n ?_
            refine W_seq ?_
            refine W_cond rfl (fun hg65 => ?_) (fun hg65 => ?_)
            · have hp65 := of_decide_eq_true hg65
              refine W_skip ?_
              refine thenE_n ?_
              refine W_seq ?_
              refine W_block ?_
              refine W_seq ?_
              refine W_region ?_
              refine WL_q rfl (ev_move rfl) ?_
              have hlt2 : k < A.ends[i].length := by omega
              obtain ⟨hu1, hu2, hu3, hu4⟩ := (hkA.endOk hlt hlt2).port
              refine WL_q rfl (ev_indexAddr Try.underlying56 sz61 rfl rfl (hr2.isSome (by omega)) (by omega) (by omega)) ?_
              refine WL_q rfl (ev_loads st61 sz61 rfl (hr2.cells (i := k) (by omega)) rfl) ?_
              refine WL_m rfl (ev_alloc zr61) ?_
              rintro _ w10 ⟨rfl, hN10⟩
              have hz10 := hN10.size
              replace hE := hE.trans hN10.ext
              replace hRL0 := hRL0.trans hN10.ext
              replace hRL2 := hRL2.trans hN10.ext
              replace hA := hA.ext hN10.ext
              replace hB := hB.ext hN10.ext
              replace hx := hx.ext hN10.ext
              replace hB3 := hB3.ext hN10.ext
              replace hB4 := hB4.ext hN10.ext
              replace hr2 := hr2.ext hN10.ext
              have hB10 : Blk w10 _ _ [_, _] := hN10.blk
              refine WL_q rfl (ev_assign rfl) ?_
              refine WL_s (ev_stores sz61 rfl rfl rfl (by simp [Value.oneCell']) hB10 (by simp)) ?_
              rintro _ w10_5 hS10_5
              have hz10_5 := hS10_5.size
              replace hE := hE.sto hS10_5 (by omega)
              replace hRL0 := hRL0.sto hS10_5 (by omega)
              replace hRL2 := hRL2.sto hS10_5 (by omega)
              replace hA := hA.sto hS10_5 (by omega)
              replace hB := hB.sto hS10_5 (by omega)
              replace hx := hx.sto hS10_5 (by omega)
              replace hB3 := hB3.sto hS10_5 (by omega)
              replace hB4 := hB4.sto hS10_5 (by omega)
              replace hr2 := hr2.sto hS10_5 (by omega)
              replace hB10 : Blk w10_5 _ _ [_, _] := hS10_5.blk
              refine WL_nil ?_
              refine thenE_n ?_
              refine W_seq ?_
              refine W_drawE [(0, true), (1, true), (2, true), (3, true), (4, true), (5, true), (6, true), (7, true), (8, true), (9, true), (10, true), (11, true), (12, true), (13, true), (14, true), (15, true), (16, true), (17, true), (18, true), (19, true)] mixed (by kernel_rfl) rfl (by kernel_rfl) ?_
              intro wd11 hEd11 hzd11
              replace hE := hE.trans hEd11
              replace hRL0 := hRL0.trans hEd11
              replace hRL2 := hRL2.trans hEd11
              replace hA := hA.ext hEd11
              replace hB := hB.ext hEd11
              replace hx := hx.ext hEd11
              replace hB3 := hB3.ext hEd11
              replace hB4 := hB4.ext hEd11
              replace hr2 := hr2.ext hEd11
              replace hB10 := hB10.ext hEd11
              obtain ⟨a4, c4, hc4, hr4⟩ := hB.ends.row hv2
              have hDd11 := Ext.refl wd11
              refine PW_q rfl rfl (fun wq hq => ev_fieldAddr fo31_0 rfl) ?_
              refine PW_q rfl rfl (fun wq hq => ev_load one29 rfl (hq.cell (hB4.cell rfl))) ?_
              refine PW_q rfl rfl (fun wq hq => ev_move rfl) ?_
              refine PW_q rfl rfl (fun wq hq => ev_move rfl) ?_
              refine PW_q rfl rfl (fun wq hq => ev_indexAddr Try.underlying23 sz3 rfl rfl (hx.isSome (by omega)) (by omega) (by omega)) ?_
              have hc74 := hx.cell (i := i) (by omega)
              refine PW_q rfl rfl (fun wq hq => ev_load one3 rfl (hq.cell (hc74))) ?_
              refine PW_q rfl rfl (fun wq hq => ev_indexAddr Try.underlying29 sz56 rfl rfl (hB.ends.isSome (by omega)) hrg.1 (by omega)) ?_
              refine PW_q rfl rfl (fun wq hq => ev_load one56 rfl (hq.cell (hc4))) ?_
              refine PW_q rfl rfl (fun wq hq => ev_move rfl) ?_
              refine PW_q rfl rfl (fun wq hq => ev_indexAddr Try.underlying56 sz61 rfl rfl (hr4.isSome (by omega)) (by omega) (by omega)) ?_
              have hc79 := hr4.cells (i := k) (by omega)
              refine PW_q rfl rfl (fun wq hq => ev_loads st61 sz61 rfl (hq.cells (hc79)) rfl) ?_
              refine PW_q rfl rfl (fun wq hq => ev_move rfl) ?_
              refine PW_q rfl rfl (fun wq hq => ev_fieldAddr fo61_0 rfl) ?_
              refine PW_q rfl rfl (fun wq hq => ev_load one3 rfl (hq.cell (hB10.cell rfl))) ?_
              refine PW_q rfl rfl (fun wq hq => ev_indexAddr Try.underlying23 sz3 rfl rfl (hx.isSome (by omega)) hu1 (by omega)) ?_
              have hc84 := hx.cell (i := A.ends[i][k].1.toNat) (by omega)
              refine PW_q rfl rfl (fun wq hq => ev_load one3 rfl (hq.cell (hc84))) ?_
              refine PW_q rfl rfl (fun wq hq => ev_fieldAddr fo61_1 rfl) ?_
              refine PW_q rfl rfl (fun wq hq => ev_load one3 rfl (hq.cell (hB10.cell rfl))) ?_
              refine PW_q rfl rfl (fun wq hq => ev_build2 sn61_2 rfl rfl rfl rfl) ?_
              refine PW_q rfl rfl (fun wq hq => ev_neq_pair pr61 rfl rfl) ?_
              refine PW_nil ?_
              refine thenE_n ?_
              refine W_cond rfl (fun hg88 => ?_) (fun hg88 => ?_)
              · have hp88 := of_decide_eq_true hg88
                refine W_seq ?_
                refine W_region ?_
                refine WL_q rfl (ev_assign rfl) ?_
                refine WL_nil ?_
                refine thenE_n ?_
                refine W_ret ?_
                refine blockE_r ?_
                refine thenE_r ?_
                refine thenE_r ?_
                refine blockE_r ?_
                refine blockE_r ?_
                refine thenE_r ?_
                refine thenE_r ?_
                refine blockE_r ?_
                refine thenE_r ?_
                refine ret1 rfl rfl ?_
                first | (exact ⟨false, rfl, ffI fun hk => hp16 hk.len, hE⟩) | (exact ⟨false, rfl, ffI fun hk => tf hg23 hk.rng, hE⟩) | (refine ⟨false, rfl, ffI fun hk => ?_, hE⟩; have := hk.rowlen hlt hml hv2; omega) | (refine ⟨false, rfl, ffI fun hk => ?_, hE⟩; have := hk.inp hlt hml (by omega) (by omega); omega) | (exact ⟨false, rfl, ffI fun hk => (hk.mend hlt hlt2 hml).no hp88, hE⟩) | (exact ⟨true, rfl, ttI ⟨by omega, hg23, fun v h2 => hJ v (by omega) h2⟩, hE⟩)
              · have hp88 := of_decide_eq_false hg88
                refine W_skip ?_
                refine blockE_n ?_
                refine thenE_n ?_
                refine W_region ?_
                refine WL_q rfl (ev_add rfl rfl (by omega)) ?_
                refine WL_q rfl (ev_move rfl) ?_
                refine WL_nil ?_
                refine thenE_n ?_
                exact ⟨k + 1, (Subs.c rfl (Subs.c rfl (Subs.c rfl (Subs.c rfl (Subs.c rfl (Subs.c rfl (Subs.c rfl (Subs.c rfl (Subs.c rfl Subs.n))))))))), (Subs.c (lkI rfl (by omega)) Subs.n), ⟨hRL2, ⟨by omega, dsucc (P := fun j h2 => MEnd B m m[i] j A.ends[i][j]) hJ2 hlt2 ⟨hv2, by omega, by omega, Prod.ext (by omega) (by omega)⟩⟩⟩, by first | omega | (dsimp only; omega)⟩
            · have hp65 := of_decide_eq_false hg65
              refine W_exit ?_
              refine thenE_x ?_
              refine thenE_x ?_
              refine blockE_hit ?_
              refine blockE_n ?_
              refine thenE_n ?_
              refine W_region ?_
              refine WL_q rfl (ev_add rfl rfl (by omega)) ?_
              refine WL_q rfl (ev_move rfl) ?_
              refine WL_nil ?_
              refine thenE_n ?_
              exact ⟨i + 1, (Subs.c rfl (Subs.c rfl (Subs.c rfl (Subs.c rfl (Subs.c rfl Subs.n))))), (Subs.c (lkI rfl (by omega)) Subs.n), ⟨hRL0, ⟨by omega, dsucc (P := fun j h2 => MRow A B m j A.ends[j]) hJ hlt ⟨hml, hv2, by omega, by omega, by omega, by omega, fun j h2 => hJ2 j (by omega) h2⟩⟩⟩, by first | omega | (dsimp only; omega)⟩
      · have hp30 := of_decide_eq_false hg30
        refine W_exit ?_
        refine thenE_x ?_
        refine thenE_x ?_
        refine blockE_hit ?_
        refine thenE_n ?_
        refine W_seq ?_
        refine W_region ?_
        refine WL_q rfl (ev_assign rfl) ?_
        refine WL_nil ?_
        refine thenE_n ?_
        refine W_ret ?_
        refine ret1 rfl rfl ?_
        first | (exact ⟨false, rfl, ffI fun hk => hp16 hk.len, hE⟩) | (exact ⟨false, rfl, ffI fun hk => tf hg23 hk.rng, hE⟩) | (refine ⟨false, rfl, ffI fun hk => ?_, hE⟩; have := hk.rowlen hlt hml hv2; omega) | (refine ⟨false, rfl, ffI fun hk => ?_, hE⟩; have := hk.inp hlt hml (by omega) (by omega); omega) | (exact ⟨false, rfl, ffI fun hk => (hk.mend hlt hlt2 hml).no hp88, hE⟩) | (exact ⟨true, rfl, ttI ⟨by omega, hg23, fun v h2 => hJ v (by omega) h2⟩, hE⟩)

set_option maxHeartbeats 2000000 in
set_option maxRecDepth 100000 in
theorem isPortMap_spec {lo hi lo2 hi2 lo3 hi3 : Nat} (ha hb : NA) (A B : Net) (a : Option Addr) (c : Nat) (m : List Int) (w : World) (hA : IsNet lo hi w ha A) (hB : IsNet lo2 hi2 w hb B) (hx : Ints lo3 hi3 w a c m) (hhi : hi ≤ w.heap.size) (hhi2 : hi2 ≤ w.heap.size) (hhi3 : hi3 ≤ w.heap.size) (hnA : totN A ≤ 1048576) (hnB : totN B ≤ 1048576) (hm : m.length ≤ 1048576) (hkA : NOk A) (hkB : NOk B) :
    Fn Try.prog 62 #[netV ha A, netV hb B, .slice a m.length c] w (fun v w' => ∃ b, v = VB b ∧ (b = true ↔ IsPM A B m) ∧ Ext w w') := by
  unfold totN at hnA hnB
  have hq1 := totL_len A.ends
  have hq2 := totL_len B.ends
  have hinA := hkA.inLen
  have hinB := hkB.inLen
  have hE := Ext.refl w
  refine Fn_of Try.func62 rfl rfl (by kernel_rfl) rfl ?_
  refine W_seq ?_
  refine W_region ?_
  refine WL_m rfl (ev_box rfl) ?_
  rintro _ w3 ⟨rfl, hN3⟩
  have hz3 := hN3.size
  replace hE := hE.trans hN3.ext
  replace hA := hA.ext hN3.ext
  replace hB := hB.ext hN3.ext
  replace hx := hx.ext hN3.ext
  have hB3 : Blk w3 _ _ [_, _, _] := hN3.blk
  refine WL_m rfl (ev_box rfl) ?_
  rintro _ w4 ⟨rfl, hN4⟩
  have hz4 := hN4.size
  replace hE := hE.trans hN4.ext
  replace hA := hA.ext hN4.ext
  replace hB := hB.ext hN4.ext
  replace hx := hx.ext hN4.ext
  replace hB3 := hB3.ext hN4.ext
  have hB4 : Blk w4 _ _ [_, _, _] := hN4.blk
  refine WL_q rfl (ev_assign rfl) ?_
  refine WL_nil ?_
  refine thenE_n ?_
  refine W_seq ?_
  refine W_seq ?_
  refine W_region ?_
  refine WL_q rfl (ev_move rfl) ?_
  refine WL_q rfl (ev_len Try.underlying23 rfl) ?_
  refine WL_q rfl (ev_fieldAddr fo31_0 rfl) ?_
  refine WL_q rfl (ev_load one29 rfl (hB3.cell rfl)) ?_
  refine WL_q rfl (ev_len Try.underlying29 rfl) ?_
  refine WL_q rfl (ev_neq rfl rfl) ?_
  refine WL_q rfl (ev_move rfl) ?_
  refine WL_splitv (t := 18) rfl (fun hg17 => ?_) (fun hg17 => ?_)
  · have hp17 := of_decide_eq_true hg17
    refine WL_no rfl rfl hg17 rfl ?_
    refine WL_no rfl rfl hg17 rfl ?_
    refine WL_no rfl rfl hg17 rfl ?_
    refine WL_no rfl rfl hg17 rfl ?_
    refine WL_no rfl rfl hg17 rfl ?_
    refine WL_no rfl rfl hg17 rfl ?_
    refine WL_no rfl rfl hg17 rfl ?_
    refine WL_q rfl (ev_pick_t rfl hg17 rfl) ?_
    refine WL_nil ?_
    refine thenE_n ?_
    refine W_cond_t rfl ?_
    refine W_seq ?_
    refine W_region ?_
    refine WL_q rfl (ev_assign rfl) ?_
    refine WL_nil ?_
    refine thenE_n ?_
    refine W_ret ?_
    refine thenE_r ?_
    refine ret1 rfl rfl ?_
    first | (exact ⟨false, rfl, ffI fun hk => hp17 hk.len, hE⟩) | (exact ⟨false, rfl, ffI fun hk => tf hg24 hk.rng, hE⟩) | (refine ⟨false, rfl, ffI fun hk => ?_, hE⟩; have := hk.rowlen hlt hml hv2; omega) | (refine ⟨false, rfl, ffI fun hk => ?_, hE⟩; have := hk.inp hlt hml (by omega) (by omega); omega) | (exact ⟨false, rfl, ffI fun hk => (hk.mend hlt hlt2 hml).no hp83, hE⟩) | (exact ⟨true, rfl, ttI ⟨by omega, hg24, fun v h2 => hJ v (by omega) h2⟩, hE⟩)
  · have hp17 := of_decide_eq_false hg17
    refine WL_qg rfl rfl hg17 rfl (ev_move rfl) ?_
    refine WL_qg rfl rfl hg17 rfl (ev_fieldAddr fo31_0 rfl) ?_
    refine WL_qg rfl rfl hg17 rfl (ev_load one29 rfl (hB4.cell rfl)) ?_
    refine WL_qg rfl rfl hg17 rfl (ev_len Try.underlying29 rfl) ?_
    refine WL_qg rfl rfl hg17 rfl (ev_sub rfl rfl (by omega)) ?_
    refine WL_mg rfl rfl hg17 rfl (ev_call rfl (allWithin_spec _ _ _ _ _ _ hx (by omega))) ?_
    rintro _ w24 ⟨rfl, hE24⟩
    have hz24 := hE24.size
    replace hE := hE.trans hE24
    replace hA := hA.ext hE24
    replace hB := hB.ext hE24
    replace hx := hx.ext hE24
    replace hB3 := hB3.ext hE24
    replace hB4 := hB4.ext hE24
    refine WL_qg rfl rfl hg17 rfl (ev_not rfl) ?_
    refine WL_q rfl (ev_pick_f rfl hg17 rfl) ?_
    refine WL_nil ?_
    refine thenE_n ?_
    refine W_cond rfl (fun hg25 => ?_) (fun hg25 => ?_)
    · have hg24 := not_true hg25
      refine W_seq ?_
      refine W_region ?_
      refine WL_q rfl (ev_assign rfl) ?_
      refine WL_nil ?_
      refine thenE_n ?_
      refine W_ret ?_
      refine thenE_r ?_
      refine ret1 rfl rfl ?_
      first | (exact ⟨false, rfl, ffI fun hk => hp17 hk.len, hE⟩) | (exact ⟨false, rfl, ffI fun hk => tf hg24 hk.rng, hE⟩) | (refine ⟨false, rfl, ffI fun hk => ?_, hE⟩; have := hk.rowlen hlt hml hv2; omega) | (refine ⟨false, rfl, ffI fun hk => ?_, hE⟩; have := hk.inp hlt hml (by omega) (by omega); omega) | (exact ⟨false, rfl, ffI fun hk => (hk.mend hlt hlt2 hml).no hp83, hE⟩) | (exact ⟨true, rfl, ttI ⟨by omega, hg24, fun v h2 => hJ v (by omega) h2⟩, hE⟩)
    · have hg24 := not_false hg25
      refine W_skip ?_
      refine thenE_n ?_
      refine W_seq ?_
      refine W_seq ?_
      refine W_region ?_
      refine WL_q rfl (ev_fieldAddr fo31_0 rfl) ?_
      refine WL_q rfl (ev_load one29 rfl (hB3.cell rfl)) ?_
      refine WL_q rfl (ev_len Try.underlying29 rfl) ?_
      refine WL_q rfl (ev_move rfl) ?_
      refine WL_nil ?_
      refine thenE_n ?_
      refine W_block ?_
      refine W_loopC (G := Nat) [(2, _), (3, _), (4, _), (28, _), (29, _)] ((Subs.c rfl (Subs.c rfl (Subs.c rfl (Subs.c rfl (Subs.c rfl Subs.n)))))) (fun i => [(30, VI (i : Int))]) (fun i w' => Ext w24 w' ∧ i ≤ A.ends.length ∧ ∀ j (_h : j < i) (h2 : j < A.ends.length), MRow A B m j A.ends[j]) (fun i => A.ends.length - i) 0 ((Subs.c (lkI rfl (by omega)) Subs.n)) (⟨Ext.refl _, ⟨by omega, fun j h => by omega⟩⟩) ?_
      rintro i wL0 ⟨hRL0, hi', hJ⟩
      have hzL0 := hRL0.size
      replace hE := hE.trans hRL0
      replace hA := hA.ext hRL0
      replace hB := hB.ext hRL0
      replace hx := hx.ext hRL0
      replace hB3 := hB3.ext hRL0
      replace hB4 := hB4.ext hRL0
      refine W_seq ?_
      refine W_region ?_
      refine WL_q rfl (ev_lss rfl rfl) ?_
      refine WL_nil ?_
      refine thenE_n ?_
      refine W_seq ?_
      refine W_cond rfl (fun hg31 => ?_) (fun hg31 => ?_)
      · have hp31 := of_decide_eq_true hg31
        refine W_skip ?_
        refine thenE_n ?_
        refine W_seq ?_
        refine W_block ?_
        refine W_seq ?_
        refine W_region ?_
        refine WL_q rfl (ev_move rfl) ?_
        have hlt : i < A.ends.length := by omega
        have htl := totL_le hlt
        have hml : i < m.length := by omega
        have hrg := allR_at hg24 hml
        have hv2 : m[i].toNat < B.ends.length := by omega
        have htl2 := totL_le hv2
        obtain ⟨a2, c2, hc2, hr2⟩ := hA.ends.row hlt
        refine WL_q rfl (ev_indexAddr Try.underlying29 sz56 rfl rfl (hA.ends.isSome (by omega)) (by omega) (by omega)) ?_
        refine WL_q rfl (ev_load one56 rfl (hc2)) ?_
        refine WL_q rfl (ev_assign rfl) ?_
        refine WL_q rfl (ev_assign rfl) ?_
        refine WL_nil ?_
        refine thenE_n ?_
        refine W_seq ?_
        refine W_drawE [(0, true), (1, true), (2, true), (3, true), (4, true), (5, true), (6, true), (7, true), (8, true)] mixed (by kernel_rfl) rfl (by kernel_rfl) ?_
        intro wd6 hEd6 hzd6
        replace hE := hE.trans hEd6
        replace hRL0 := hRL0.trans hEd6
        replace hA := hA.ext hEd6
        replace hB := hB.ext hEd6
        replace hx := hx.ext hEd6
        replace hB3 := hB3.ext hEd6
        replace hB4 := hB4.ext hEd6
        replace hr2 := hr2.ext hEd6
        obtain ⟨a3, c3, hc3, hr3⟩ := hB.ends.row hv2
        have hDd6 := Ext.refl wd6
        refine PW_q rfl rfl (fun wq hq => ev_fieldAddr fo31_0 rfl) ?_
        refine PW_q rfl rfl (fun wq hq => ev_load one29 rfl (hq.cell (hB4.cell rfl))) ?_
        refine PW_q rfl rfl (fun wq hq => ev_move rfl) ?_
        refine PW_q rfl rfl (fun wq hq => ev_move rfl) ?_
        refine PW_q rfl rfl (fun wq hq => ev_indexAddr Try.underlying23 sz3 rfl rfl (hx.isSome (by omega)) (by omega) (by omega)) ?_
        have hc40 := hx.cell (i := i) (by omega)
        refine PW_q rfl rfl (fun wq hq => ev_load one3 rfl (hq.cell (hc40))) ?_
        refine PW_q rfl rfl (fun wq hq => ev_indexAddr Try.underlying29 sz56 rfl rfl (hB.ends.isSome (by omega)) hrg.1 (by omega)) ?_
        refine PW_q rfl rfl (fun wq hq => ev_load one56 rfl (hq.cell (hc3))) ?_
        refine PW_q rfl rfl (fun wq hq => ev_assign rfl) ?_
        refine PW_nil ?_
        refine thenE_n ?_
        refine W_seq ?_
        refine W_seq ?_
        refine W_drawE [(0, true), (1, true), (2, true), (3, true), (4, true), (5, true), (6, true), (7, true), (8, true), (9, true), (10, true), (11, true), (12, true), (13, true), (14, true), (15, true), (16, true), (17, true), (18, true), (19, true), (20, true)] mixed (by kernel_rfl) rfl (by kernel_rfl) ?_
        intro wd7 hEd7 hzd7
        replace hE := hE.trans hEd7
        replace hRL0 := hRL0.trans hEd7
        replace hA := hA.ext hEd7
        replace hB := hB.ext hEd7
        replace hx := hx.ext hEd7
        replace hB3 := hB3.ext hEd7
        replace hB4 := hB4.ext hEd7
        replace hr2 := hr2.ext hEd7
        replace hr3 := hr3.ext hEd7
        have hDd7 := Ext.refl wd7
        refine PW_q rfl rfl (fun wq hq => ev_move rfl) ?_
        refine PW_q rfl rfl (fun wq hq => ev_len Try.underlying56 rfl) ?_
        refine PW_q rfl rfl (fun wq hq => ev_move rfl) ?_
        refine PW_q rfl rfl (fun wq hq => ev_len Try.underlying56 rfl) ?_
        refine PW_q rfl rfl (fun wq hq => ev_neq rfl rfl) ?_
        refine PW_q rfl rfl (fun wq hq => ev_move rfl) ?_
        refine PW_splitv (t := 48) rfl (fun hg47 => ?_) (fun hg47 => ?_)
        · have hp47 := of_decide_eq_true hg47
          refine PW_no rfl rfl rfl hg47 rfl ?_
          refine PW_no rfl rfl rfl hg47 rfl ?_
          refine PW_no rfl rfl rfl hg47 rfl ?_
          refine PW_no rfl rfl rfl hg47 rfl ?_
          refine PW_no rfl rfl rfl hg47 rfl ?_
          refine PW_no rfl rfl rfl hg47 rfl ?_
          refine PW_no rfl rfl rfl hg47 rfl ?_
          refine PW_no rfl rfl rfl hg47 rfl ?_
          refine PW_no rfl rfl rfl hg47 rfl ?_
          refine PW_no rfl rfl rfl hg47 rfl ?_
          refine PW_no rfl rfl rfl hg47 rfl ?_
          refine PW_no rfl rfl rfl hg47 rfl ?_
          refine PW_no rfl rfl rfl hg47 rfl ?_
          refine PW_no rfl rfl rfl hg47 rfl ?_
          refine PW_q rfl rfl (fun wq hq => ev_pick_t rfl hg47 rfl) ?_
          refine PW_nil ?_
          refine thenE_n ?_
          refine W_cond_t rfl ?_
          refine W_seq ?_
          refine W_region ?_
          refine WL_q rfl (ev_assign rfl) ?_
          refine WL_nil ?_
          refine thenE_n ?_
          refine W_ret ?_
          refine thenE_r ?_
          refine blockE_r ?_
          refine thenE_r ?_
          refine thenE_r ?_
          refine blockE_r ?_
          refine thenE_r ?_
          refine ret1 rfl rfl ?_
          first | (exact ⟨false, rfl, ffI fun hk => hp17 hk.len, hE⟩) | (exact ⟨false, rfl, ffI fun hk => tf hg24 hk.rng, hE⟩) | (refine ⟨false, rfl, ffI fun hk => ?_, hE⟩; have := hk.rowlen hlt hml hv2; omega) | (refine ⟨false, rfl, ffI fun hk => ?_, hE⟩; have := hk.inp hlt hml (by omega) (by omega); omega) | (exact ⟨false, rfl, ffI fun hk => (hk.mend hlt hlt2 hml).no hp83, hE⟩) | (exact ⟨true, rfl, ttI ⟨by omega, hg24, fun v h2 => hJ v (by omega) h2⟩, hE⟩)
        · have hp47 := of_decide_eq_false hg47
          refine PW_qg rfl rfl rfl hg47 rfl (fun wq hq => ev_fieldAddr fo31_2 rfl) ?_
          refine PW_qg rfl rfl rfl hg47 rfl (fun wq hq => ev_load one23 rfl (hq.cell (hB3.cell rfl))) ?_
          refine PW_qg rfl rfl rfl hg47 rfl (fun wq hq => ev_move rfl) ?_
          refine PW_qg rfl rfl rfl hg47 rfl (fun wq hq => ev_indexAddr Try.underlying23 sz3 rfl rfl (hA.inputs.isSome (by omega)) (by omega) (by omega)) ?_
          have hc53 := hA.inputs.cell (i := i) (by omega)
          refine PW_qg rfl rfl rfl hg47 rfl (fun wq hq => ev_load one3 rfl (hq.cell (hc53))) ?_
          refine PW_qg rfl rfl rfl hg47 rfl (fun wq hq => ev_fieldAddr fo31_2 rfl) ?_
          refine PW_qg rfl rfl rfl hg47 rfl (fun wq hq => ev_load one23 rfl (hq.cell (hB4.cell rfl))) ?_
          refine PW_qg rfl rfl rfl hg47 rfl (fun wq hq => ev_move rfl) ?_
          refine PW_qg rfl rfl rfl hg47 rfl (fun wq hq => ev_move rfl) ?_
          refine PW_qg rfl rfl rfl hg47 rfl (fun wq hq => ev_indexAddr Try.underlying23 sz3 rfl rfl (hx.isSome (by omega)) (by omega) (by omega)) ?_
          have hc59 := hx.cell (i := i) (by omega)
          refine PW_qg rfl rfl rfl hg47 rfl (fun wq hq => ev_load one3 rfl (hq.cell (hc59))) ?_
          refine PW_qg rfl rfl rfl hg47 rfl (fun wq hq => ev_indexAddr Try.underlying23 sz3 rfl rfl (hB.inputs.isSome (by omega)) hrg.1 (by omega)) ?_
          have hc61 := hB.inputs.cell (i := m[i].toNat) (by omega)
          refine PW_qg rfl rfl rfl hg47 rfl (fun wq hq => ev_load one3 rfl (hq.cell (hc61))) ?_
          refine PW_qg rfl rfl rfl hg47 rfl (fun wq hq => ev_neq rfl rfl) ?_
          refine PW_q rfl rfl (fun wq hq => ev_pick_f rfl hg47 rfl) ?_
          refine PW_nil ?_
          refine thenE_n ?_
          refine W_cond rfl (fun hg62 => ?_) (fun hg62 => ?_)
          · have hp62 := of_decide_eq_true hg62
            refine W_seq ?_
            refine W_region ?_
            refine WL_q rfl (ev_assign rfl) ?_
            refine WL_nil ?_
            refine thenE_n ?_
            refine W_ret ?_
            refine thenE_r ?_
            refine blockE_r ?_
            refine thenE_r ?_
            refine thenE_r ?_
            refine blockE_r ?_
            refine thenE_r ?_
            refine ret1 rfl rfl ?_
            first | (exact ⟨false, rfl, ffI fun hk => hp17 hk.len, hE⟩) | (exact ⟨false, rfl, ffI fun hk => tf hg24 hk.rng, hE⟩) | (refine ⟨false, rfl, ffI fun hk => ?_, hE⟩; have := hk.rowlen hlt hml hv2; omega) | (refine ⟨false, rfl, ffI fun hk => ?_, hE⟩; have := hk.inp hlt hml (by omega) (by omega); omega) | (exact ⟨false, rfl, ffI fun hk => (hk.mend hlt hlt2 hml).no hp83, hE⟩) | (exact ⟨true, rfl, ttI ⟨by omega, hg24, fun v h2 => hJ v (by omega) h2⟩, hE⟩)
          · have hp62 := of_decide_eq_false hg62
            refine W_skip ?_
            refine thenE_n ?_
            refine W_seq ?_
            refine W_region ?_
            refine WL_q rfl (ev_move rfl) ?_
            refine WL_q rfl (ev_len Try.underlying56 rfl) ?_
            refine WL_q rfl (ev_move rfl) ?_
            refine WL_nil ?_
            refine thenE_n ?_
            refine W_block ?_
            refine W_loopC (G := Nat) [(2, _), (3, _), (4, _), (9, _), (28, _), (29, _), (30, _), (64, _), (65, _)] ((Subs.c rfl (Subs.c rfl (Subs.c rfl (Subs.c rfl (Subs.c rfl (Subs.c rfl (Subs.c rfl (Subs.c rfl (Subs.c rfl Subs.n)))))))))) (fun k => [(66, VI (k : Int))]) (fun k w' => Ext wd7 w' ∧ k ≤ A.ends[i].length ∧ ∀ j (_h : j < k) (h2 : j < A.ends[i].length), MEnd B m m[i] j A.ends[i][j]) (fun k => A.ends[i].length - k) 0 ((Subs.c (lkI rfl (by omega)) Subs.n)) (⟨Ext.refl _, ⟨by omega, fun j h => by omega⟩⟩) ?_
            rintro k wL2 ⟨hRL2, hk', hJ2⟩
            have hzL2 := hRL2.size
            replace hE := hE.trans hRL2
            replace hRL0 := hRL0.trans hRL2
            replace hA := hA.ext hRL2
            replace hB := hB.ext hRL2
            replace hx := hx.ext hRL2
            replace hB3 := hB3.ext hRL2
            replace hB4 := hB4.ext hRL2
            replace hr2 := hr2.ext hRL2
            replace hr3 := hr3.ext hRL2
            refine W_seq ?_
            refine W_region ?_
            refine WL_q rfl (ev_lss rfl rfl) ?_
            refine WL_nil ?_
            refine thenE_n ?_
            refine W_seq ?_
            refine W_cond rfl (fun hg67 => ?_) (fun hg67 => ?_)
            · have hp67 := of_decide_eq_true hg67
              refine W_skip ?_
              refine thenE_n ?_
              refine W_seq ?_
              refine W_block ?_
              refine W_seq ?_
              refine W_region ?_
              refine WL_q rfl (ev_move rfl) ?_
              have hlt2 : k < A.ends[i].length := by omega
              obtain ⟨hu1, hu2, hu3, hu4⟩ := (hkA.endOk hlt hlt2).port
              refine WL_q rfl (ev_indexAddr Try.underlying56 sz61 rfl rfl (hr2.isSome (by omega)) (by omega) (by omega)) ?_
              refine WL_q rfl (ev_loads st61 sz61 rfl (hr2.cells (i := k) (by omega)) rfl) ?_
              refine WL_m rfl (ev_alloc zr61) ?_
              rintro _ w11 ⟨rfl, hN11⟩
              have hz11 := hN11.size
              replace hE := hE.trans hN11.ext
              replace hRL0 := hRL0.trans hN11.ext
              replace hRL2 := hRL2.trans hN11.ext
              replace hA := hA.ext hN11.ext
              replace hB := hB.ext hN11.ext
              replace hx := hx.ext hN11.ext
              replace hB3 := hB3.ext hN11.ext
              replace hB4 := hB4.ext hN11.ext
              replace hr2 := hr2.ext hN11.ext
              replace hr3 := hr3.ext hN11.ext
              have hB11 : Blk w11 _ _ [_, _] := hN11.blk
              refine WL_q rfl (ev_assign rfl) ?_
              refine WL_s (ev_stores sz61 rfl rfl rfl (by simp [Value.oneCell']) hB11 (by simp)) ?_
              rintro _ w11_5 hS11_5
              have hz11_5 := hS11_5.size
              replace hE := hE.sto hS11_5 (by omega)
              replace hRL0 := hRL0.sto hS11_5 (by omega)
              replace hRL2 := hRL2.sto hS11_5 (by omega)
              replace hA := hA.sto hS11_5 (by omega)
              replace hB := hB.sto hS11_5 (by omega)
              replace hx := hx.sto hS11_5 (by omega)
              replace hB3 := hB3.sto hS11_5 (by omega)
              replace hB4 := hB4.sto hS11_5 (by omega)
              replace hr2 := hr2.sto hS11_5 (by omega)
              replace hr3 := hr3.sto hS11_5 (by omega)
              replace hB11 : Blk w11_5 _ _ [_, _] := hS11_5.blk
              refine WL_nil ?_
              refine thenE_n ?_
              refine W_seq ?_
              refine W_drawE [(0, true), (1, true), (2, true), (3, true), (4, true), (5, true), (6, true), (7, true), (8, true), (9, true), (10, true), (11, true), (12, true)] mixed (by kernel_rfl) rfl (by kernel_rfl) ?_
              intro wd12 hEd12 hzd12
              replace hE := hE.trans hEd12
              replace hRL0 := hRL0.trans hEd12
              replace hRL2 := hRL2.trans hEd12
              replace hA := hA.ext hEd12
              replace hB := hB.ext hEd12
              replace hx := hx.ext hEd12
              replace hB3 := hB3.ext hEd12
              replace hB4 := hB4.ext hEd12
              replace hr2 := hr2.ext hEd12
              replace hr3 := hr3.ext hEd12
              replace hB11 := hB11.ext hEd12
              have hDd12 := Ext.refl wd12
              refine PW_q rfl rfl (fun wq hq => ev_move rfl) ?_
              refine PW_q rfl rfl (fun wq hq => ev_move rfl) ?_
              refine PW_q rfl rfl (fun wq hq => ev_indexAddr Try.underlying56 sz61 rfl rfl (hr3.isSome (by omega)) (by omega) (by omega)) ?_
              have hc74 := hr3.cells (i := k) (by omega)
              refine PW_q rfl rfl (fun wq hq => ev_loads st61 sz61 rfl (hq.cells (hc74)) rfl) ?_
              refine PW_q rfl rfl (fun wq hq => ev_move rfl) ?_
              refine PW_q rfl rfl (fun wq hq => ev_fieldAddr fo61_0 rfl) ?_
              refine PW_q rfl rfl (fun wq hq => ev_load one3 rfl (hq.cell (hB11.cell rfl))) ?_
              refine PW_q rfl rfl (fun wq hq => ev_indexAddr Try.underlying23 sz3 rfl rfl (hx.isSome (by omega)) hu1 (by omega)) ?_
              have hc79 := hx.cell (i := A.ends[i][k].1.toNat) (by omega)
              refine PW_q rfl rfl (fun wq hq => ev_load one3 rfl (hq.cell (hc79))) ?_
              refine PW_q rfl rfl (fun wq hq => ev_fieldAddr fo61_1 rfl) ?_
              refine PW_q rfl rfl (fun wq hq => ev_load one3 rfl (hq.cell (hB11.cell rfl))) ?_
              refine PW_q rfl rfl (fun wq hq => ev_build2 sn61_2 rfl rfl rfl rfl) ?_
              refine PW_q rfl rfl (fun wq hq => ev_neq_pair pr61 rfl rfl) ?_
              refine PW_nil ?_
              refine thenE_n ?_
              refine W_cond rfl (fun hg83 => ?_) (fun hg83 => ?_)
              · have hp83 := of_decide_eq_true hg83
                refine W_seq ?_
                refine W_region ?_
                refine WL_q rfl (ev_assign rfl) ?_
                refine WL_nil ?_
                refine thenE_n ?_
                refine W_ret ?_
                refine blockE_r ?_
                refine thenE_r ?_
                refine thenE_r ?_
                refine blockE_r ?_
                refine blockE_r ?_
                refine thenE_r ?_
                refine thenE_r ?_
                refine blockE_r ?_
                refine thenE_r ?_
                refine ret1 rfl rfl ?_
                first | (exact ⟨false, rfl, ffI fun hk => hp17 hk.len, hE⟩) | (exact ⟨false, rfl, ffI fun hk => tf hg24 hk.rng, hE⟩) | (refine ⟨false, rfl, ffI fun hk => ?_, hE⟩; have := hk.rowlen hlt hml hv2; omega) | (refine ⟨false, rfl, ffI fun hk => ?_, hE⟩; have := hk.inp hlt hml (by omega) (by omega); omega) | (exact ⟨false, rfl, ffI fun hk => (hk.mend hlt hlt2 hml).no hp83, hE⟩) | (exact ⟨true, rfl, ttI ⟨by omega, hg24, fun v h2 => hJ v (by omega) h2⟩, hE⟩)
              · have hp83 := of_decide_eq_false hg83
                refine W_skip ?_
                refine blockE_n ?_
                refine thenE_n ?_
                refine W_region ?_
                refine WL_q rfl (ev_add rfl rfl (by omega)) ?_
                refine WL_q rfl (ev_move rfl) ?_
                refine WL_nil ?_
                refine thenE_n ?_
                exact ⟨k + 1, (Subs.c rfl (Subs.c rfl (Subs.c rfl (Subs.c rfl (Subs.c rfl (Subs.c rfl (Subs.c rfl (Subs.c rfl (Subs.c rfl Subs.n))))))))), (Subs.c (lkI rfl (by omega)) Subs.n), ⟨hRL2, ⟨by omega, dsucc (P := fun j h2 => MEnd B m m[i] j A.ends[i][j]) hJ2 hlt2 ⟨hv2, by omega, by omega, Prod.ext (by omega) (by omega)⟩⟩⟩, by first | omega | (dsimp only; omega)⟩
            · have hp67 := of_decide_eq_false hg67
              refine W_exit ?_
              refine thenE_x ?_
              refine thenE_x ?_
              refine blockE_hit ?_
              refine blockE_n ?_
              refine thenE_n ?_
              refine W_region ?_
              refine WL_q rfl (ev_add rfl rfl (by omega)) ?_
              refine WL_q rfl (ev_move rfl) ?_
              refine WL_nil ?_
              refine thenE_n ?_
              exact ⟨i + 1, (Subs.c rfl (Subs.c rfl (Subs.c rfl (Subs.c rfl (Subs.c rfl Subs.n))))), (Subs.c (lkI rfl (by omega)) Subs.n), ⟨hRL0, ⟨by omega, dsucc (P := fun j h2 => MRow A B m j A.ends[j]) hJ hlt ⟨hml, hv2, by omega, by omega, by omega, by omega, fun j h2 => hJ2 j (by omega) h2⟩⟩⟩, by first | omega | (dsimp only; omega)⟩
      · have hp31 := of_decide_eq_false hg31
        refine W_exit ?_
        refine thenE_x ?_
        refine thenE_x ?_
        refine blockE_hit ?_
        refine thenE_n ?_
        refine W_seq ?_
        refine W_region ?_
        refine WL_q rfl (ev_assign rfl) ?_
        refine WL_nil ?_
        refine thenE_n ?_
        refine W_ret ?_
        refine ret1 rfl rfl ?_
        first | (exact ⟨false, rfl, ffI fun hk => hp17 hk.len, hE⟩) | (exact ⟨false, rfl, ffI fun hk => tf hg24 hk.rng, hE⟩) | (refine ⟨false, rfl, ffI fun hk => ?_, hE⟩; have := hk.rowlen hlt hml hv2; omega) | (refine ⟨false, rfl, ffI fun hk => ?_, hE⟩; have := hk.inp hlt hml (by omega) (by omega); omega) | (exact ⟨false, rfl, ffI fun hk => (hk.mend hlt hlt2 hml).no hp83, hE⟩) | (exact ⟨true, rfl, ttI ⟨by omega, hg24, fun v h2 => hJ v (by omega) h2⟩, hE⟩)

end Go.Proofs.Ytladejfcplpnaaa
